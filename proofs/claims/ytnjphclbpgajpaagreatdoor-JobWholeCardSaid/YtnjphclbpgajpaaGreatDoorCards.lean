/-
  DERIVED. GIVEN WITH THE SEED: THE CARDS: each row of YtnjphclbpgajpaaGreatDoorRows.lean that lists a variable, with what it lists TIED to the program's text (the seventh form; the later family's looks); each row that meets fmt, with fmt's text TOLD by the authors' own Lean function (tested against real Go, not proved from fmt's source: count such statements apart). THE CARD IS WHAT COUNTS. Prove the row's statement (the work); the ties are given (YtnjphclbpgajpaaGreatDoorTie.lean); close each card by the builder's one call (the guide's Derived/Test/ToyasCard.lean, 'card_holds'). Laid BY PROGRAM, IN A SANDBOX (cutbox-door.mjs). By AI agents, Wed Nov 11 2026. No macro, syntax, notation, axiom, sorry.
-/
import Derived.Test.YtnjphclbpgajpaaGreatDoorRows
import GoSem.ClaimSeven
namespace Go.Proofs.YtnjphclbpgajpaaGreatDoor
namespace Rows

/-- THE TIED CARD OF 'hortatorlaw19.JobAll'. -/
def jobAllCard : Claim7 := { stood := { row := jobAllRow, standIns := [], harness := (true, "aada39efcd2bae9a899bb5c456762e7237047e2d7d47480e4901f2fc647950d7"), looks := true }, kinds := [], alts := [], laidByText := true, laidKinds := [.data, .data, .data, .data, .sentinel, .sentinel, .pinned], laidTests := true, laidLooks := .later }
def JobAllCardSaid : Prop := Claim7.holds Tryz.pinned (.plain (OpenSpec.ofChange jobAllSpec)) jobAllCard

/-- THE TIED CARD OF 'hortatorlaw19.JobAny'. -/
def jobAnyCard : Claim7 := { stood := { row := jobAnyRow, standIns := [], harness := (true, "aada39efcd2bae9a899bb5c456762e7237047e2d7d47480e4901f2fc647950d7"), looks := true }, kinds := [], alts := [], laidByText := true, laidKinds := [.data, .data, .data, .data, .sentinel, .sentinel, .pinned], laidTests := true, laidLooks := .later }
def JobAnyCardSaid : Prop := Claim7.holds Tryz.pinned (.plain (OpenSpec.ofChange jobAnySpec)) jobAnyCard

/-- THE TIED CARD OF 'hortatorlaw19.BenchAll'. -/
def benchAllCard : Claim7 := { stood := { row := benchAllRow, standIns := [], harness := (true, "aada39efcd2bae9a899bb5c456762e7237047e2d7d47480e4901f2fc647950d7"), looks := true }, kinds := [], alts := [], laidByText := true, laidKinds := [.data, .data, .data, .data, .sentinel, .sentinel, .pinned], laidTests := true, laidLooks := .later }
def BenchAllCardSaid : Prop := Claim7.holds Tryz.pinned (.plain (OpenSpec.ofChange benchAllSpec)) benchAllCard

/-- THE TIED CARD OF 'hortatorlaw19.JobWhole'. -/
def jobWholeCard : Claim7 := { stood := { row := jobWholeRow, standIns := [], harness := (true, "aada39efcd2bae9a899bb5c456762e7237047e2d7d47480e4901f2fc647950d7"), looks := true }, kinds := [], alts := [], laidByText := true, laidKinds := [.data, .data, .data, .data, .sentinel, .sentinel, .pinned], laidTests := true, laidLooks := .later }
def JobWholeCardSaid : Prop := Claim7.holds Tryz.pinned (.plain (OpenSpec.ofChange jobWholeSpec)) jobWholeCard

/-- THE TIED CARD OF 'hortatorlaw19.JobMoves'. -/
def jobMovesCard : Claim7 := { stood := { row := jobMovesRow, standIns := [], harness := (true, "aada39efcd2bae9a899bb5c456762e7237047e2d7d47480e4901f2fc647950d7"), looks := true }, kinds := [], alts := [], laidByText := true, laidKinds := [.data, .data, .data, .data, .sentinel, .sentinel, .pinned], laidTests := true, laidLooks := .later }
def JobMovesCardSaid : Prop := Claim7.holds Tryz.pinned (.plain (OpenSpec.ofChange jobMovesSpec)) jobMovesCard

/-- THE TIED CARD OF 'hortatorlaw19.BenchOrder'. -/
def benchOrderCard : Claim7 := { stood := { row := benchOrderRow, standIns := [], harness := (true, "aada39efcd2bae9a899bb5c456762e7237047e2d7d47480e4901f2fc647950d7"), looks := true }, kinds := [], alts := [], laidByText := true, laidKinds := [.data, .data, .data, .data, .sentinel, .sentinel, .pinned], laidTests := true, laidLooks := .later }
def BenchOrderCardSaid : Prop := Claim7.holds Tryz.pinned (.plain (OpenSpec.ofChange benchOrderSpec)) benchOrderCard

/-- THE TIED CARD OF 'hortatorlaw19.MailTimes'. -/
def mailTimesCard : Claim7 := { stood := { row := mailTimesRow, standIns := [], harness := (true, "aada39efcd2bae9a899bb5c456762e7237047e2d7d47480e4901f2fc647950d7"), looks := true }, kinds := [], alts := [], laidByText := true, laidKinds := [.data, .data, .data, .data, .sentinel, .sentinel, .pinned], laidTests := true, laidLooks := .later }
def MailTimesCardSaid : Prop := Claim7.holds Tryz.pinned (.plain (OpenSpec.ofChange mailTimesSpec)) mailTimesCard

/-- THE TIED CARD OF 'hortatorlaw19.AgentAll'. -/
def agentAllCard : Claim7 := { stood := { row := agentAllRow, standIns := [], harness := (true, "aada39efcd2bae9a899bb5c456762e7237047e2d7d47480e4901f2fc647950d7"), looks := true }, kinds := [], alts := [], laidByText := true, laidKinds := [.data, .data, .data, .data, .sentinel, .sentinel, .pinned], laidTests := true, laidLooks := .later }
def AgentAllCardSaid : Prop := Claim7.holds Tryz.pinned (.plain (OpenSpec.ofChange agentAllSpec)) agentAllCard

/-- THE TIED CARD OF 'hortatorlaw19.AgentTimes'. -/
def agentTimesCard : Claim7 := { stood := { row := agentTimesRow, standIns := [], harness := (true, "aada39efcd2bae9a899bb5c456762e7237047e2d7d47480e4901f2fc647950d7"), looks := true }, kinds := [], alts := [], laidByText := true, laidKinds := [.data, .data, .data, .data, .sentinel, .sentinel, .pinned], laidTests := true, laidLooks := .later }
def AgentTimesCardSaid : Prop := Claim7.holds Tryz.pinned (.plain (OpenSpec.ofChange agentTimesSpec)) agentTimesCard

/-- THE TIED CARD OF 'hortatorlaw19.AgentRefuses'. -/
def agentRefusesCard : Claim7 := { stood := { row := agentRefusesRow, standIns := [], harness := (true, "aada39efcd2bae9a899bb5c456762e7237047e2d7d47480e4901f2fc647950d7"), looks := true }, kinds := [], alts := [], laidByText := true, laidKinds := [.data, .data, .data, .data, .sentinel, .sentinel, .pinned], laidTests := true, laidLooks := .later }
def AgentRefusesCardSaid : Prop := Claim7.holds Tryz.pinned (.plain (OpenSpec.ofChange agentRefusesSpec)) agentRefusesCard

/-- THE TIED CARD OF 'hortatorlaw19.MailAll'. -/
def mailAllCard : Claim7 := { stood := { row := mailAllRow, standIns := [], harness := (true, "aada39efcd2bae9a899bb5c456762e7237047e2d7d47480e4901f2fc647950d7"), looks := true }, kinds := [], alts := [], laidByText := true, laidKinds := [.data, .data, .data, .data, .sentinel, .sentinel, .pinned], laidTests := true, laidLooks := .later }
def MailAllCardSaid : Prop := Claim7.holds Tryz.pinned (.plain (OpenSpec.ofChange mailAllSpec)) mailAllCard

/-- THE TIED CARD OF 'hortatorlaw19.JobNone'. -/
def jobNoneCard : Claim7 := { stood := { row := jobNoneRow, standIns := [], harness := (true, "aada39efcd2bae9a899bb5c456762e7237047e2d7d47480e4901f2fc647950d7"), looks := true }, kinds := [], alts := [], laidByText := true, laidKinds := [.data, .data, .data, .data, .sentinel, .sentinel, .pinned], laidTests := true, laidLooks := .later }
def JobNoneCardSaid : Prop := Claim7.holds Tryz.pinned (.plain (OpenSpec.ofChange jobNoneSpec)) jobNoneCard

/-- THE SECOND FORM's CARD OF 'hortatorlaw19.JobAll'. -/
def jobAllUptoCard : Claim7 := { stood := { row := jobAllUptoRow, standIns := [], harness := (true, "aada39efcd2bae9a899bb5c456762e7237047e2d7d47480e4901f2fc647950d7"), looks := true }, kinds := [], alts := [], laidByText := true, laidKinds := [.data, .data, .data, .data, .sentinel, .sentinel, .pinned], laidTests := true, laidLooks := .later }
def JobAllUptoCardSaid : Prop := Claim7.holds Tryz.pinned (.plain (OpenSpec.upto jobAllSpec)) jobAllUptoCard

/-- THE SECOND FORM's CARD OF 'hortatorlaw19.JobAny'. -/
def jobAnyUptoCard : Claim7 := { stood := { row := jobAnyUptoRow, standIns := [], harness := (true, "aada39efcd2bae9a899bb5c456762e7237047e2d7d47480e4901f2fc647950d7"), looks := true }, kinds := [], alts := [], laidByText := true, laidKinds := [.data, .data, .data, .data, .sentinel, .sentinel, .pinned], laidTests := true, laidLooks := .later }
def JobAnyUptoCardSaid : Prop := Claim7.holds Tryz.pinned (.plain (OpenSpec.upto jobAnySpec)) jobAnyUptoCard

/-- THE SECOND FORM's CARD OF 'hortatorlaw19.BenchAll'. -/
def benchAllUptoCard : Claim7 := { stood := { row := benchAllUptoRow, standIns := [], harness := (true, "aada39efcd2bae9a899bb5c456762e7237047e2d7d47480e4901f2fc647950d7"), looks := true }, kinds := [], alts := [], laidByText := true, laidKinds := [.data, .data, .data, .data, .sentinel, .sentinel, .pinned], laidTests := true, laidLooks := .later }
def BenchAllUptoCardSaid : Prop := Claim7.holds Tryz.pinned (.plain (OpenSpec.upto benchAllSpec)) benchAllUptoCard

/-- THE SECOND FORM's CARD OF 'hortatorlaw19.JobWhole'. -/
def jobWholeUptoCard : Claim7 := { stood := { row := jobWholeUptoRow, standIns := [], harness := (true, "aada39efcd2bae9a899bb5c456762e7237047e2d7d47480e4901f2fc647950d7"), looks := true }, kinds := [], alts := [], laidByText := true, laidKinds := [.data, .data, .data, .data, .sentinel, .sentinel, .pinned], laidTests := true, laidLooks := .later }
def JobWholeUptoCardSaid : Prop := Claim7.holds Tryz.pinned (.plain (OpenSpec.upto jobWholeSpec)) jobWholeUptoCard

/-- THE SECOND FORM's CARD OF 'hortatorlaw19.JobMoves'. -/
def jobMovesUptoCard : Claim7 := { stood := { row := jobMovesUptoRow, standIns := [], harness := (true, "aada39efcd2bae9a899bb5c456762e7237047e2d7d47480e4901f2fc647950d7"), looks := true }, kinds := [], alts := [], laidByText := true, laidKinds := [.data, .data, .data, .data, .sentinel, .sentinel, .pinned], laidTests := true, laidLooks := .later }
def JobMovesUptoCardSaid : Prop := Claim7.holds Tryz.pinned (.plain (OpenSpec.upto jobMovesSpec)) jobMovesUptoCard

/-- THE SECOND FORM's CARD OF 'hortatorlaw19.BenchOrder'. -/
def benchOrderUptoCard : Claim7 := { stood := { row := benchOrderUptoRow, standIns := [], harness := (true, "aada39efcd2bae9a899bb5c456762e7237047e2d7d47480e4901f2fc647950d7"), looks := true }, kinds := [], alts := [], laidByText := true, laidKinds := [.data, .data, .data, .data, .sentinel, .sentinel, .pinned], laidTests := true, laidLooks := .later }
def BenchOrderUptoCardSaid : Prop := Claim7.holds Tryz.pinned (.plain (OpenSpec.upto benchOrderSpec)) benchOrderUptoCard

/-- THE SECOND FORM's CARD OF 'hortatorlaw19.MailTimes'. -/
def mailTimesUptoCard : Claim7 := { stood := { row := mailTimesUptoRow, standIns := [], harness := (true, "aada39efcd2bae9a899bb5c456762e7237047e2d7d47480e4901f2fc647950d7"), looks := true }, kinds := [], alts := [], laidByText := true, laidKinds := [.data, .data, .data, .data, .sentinel, .sentinel, .pinned], laidTests := true, laidLooks := .later }
def MailTimesUptoCardSaid : Prop := Claim7.holds Tryz.pinned (.plain (OpenSpec.upto mailTimesSpec)) mailTimesUptoCard

/-- THE SECOND FORM's CARD OF 'hortatorlaw19.AgentAll'. -/
def agentAllUptoCard : Claim7 := { stood := { row := agentAllUptoRow, standIns := [], harness := (true, "aada39efcd2bae9a899bb5c456762e7237047e2d7d47480e4901f2fc647950d7"), looks := true }, kinds := [], alts := [], laidByText := true, laidKinds := [.data, .data, .data, .data, .sentinel, .sentinel, .pinned], laidTests := true, laidLooks := .later }
def AgentAllUptoCardSaid : Prop := Claim7.holds Tryz.pinned (.plain (OpenSpec.upto agentAllSpec)) agentAllUptoCard

/-- THE SECOND FORM's CARD OF 'hortatorlaw19.AgentTimes'. -/
def agentTimesUptoCard : Claim7 := { stood := { row := agentTimesUptoRow, standIns := [], harness := (true, "aada39efcd2bae9a899bb5c456762e7237047e2d7d47480e4901f2fc647950d7"), looks := true }, kinds := [], alts := [], laidByText := true, laidKinds := [.data, .data, .data, .data, .sentinel, .sentinel, .pinned], laidTests := true, laidLooks := .later }
def AgentTimesUptoCardSaid : Prop := Claim7.holds Tryz.pinned (.plain (OpenSpec.upto agentTimesSpec)) agentTimesUptoCard

/-- THE SECOND FORM's CARD OF 'hortatorlaw19.AgentRefuses'. -/
def agentRefusesUptoCard : Claim7 := { stood := { row := agentRefusesUptoRow, standIns := [], harness := (true, "aada39efcd2bae9a899bb5c456762e7237047e2d7d47480e4901f2fc647950d7"), looks := true }, kinds := [], alts := [], laidByText := true, laidKinds := [.data, .data, .data, .data, .sentinel, .sentinel, .pinned], laidTests := true, laidLooks := .later }
def AgentRefusesUptoCardSaid : Prop := Claim7.holds Tryz.pinned (.plain (OpenSpec.upto agentRefusesSpec)) agentRefusesUptoCard

/-- THE SECOND FORM's CARD OF 'hortatorlaw19.MailAll'. -/
def mailAllUptoCard : Claim7 := { stood := { row := mailAllUptoRow, standIns := [], harness := (true, "aada39efcd2bae9a899bb5c456762e7237047e2d7d47480e4901f2fc647950d7"), looks := true }, kinds := [], alts := [], laidByText := true, laidKinds := [.data, .data, .data, .data, .sentinel, .sentinel, .pinned], laidTests := true, laidLooks := .later }
def MailAllUptoCardSaid : Prop := Claim7.holds Tryz.pinned (.plain (OpenSpec.upto mailAllSpec)) mailAllUptoCard

/-- THE SECOND FORM's CARD OF 'hortatorlaw19.JobNone'. -/
def jobNoneUptoCard : Claim7 := { stood := { row := jobNoneUptoRow, standIns := [], harness := (true, "aada39efcd2bae9a899bb5c456762e7237047e2d7d47480e4901f2fc647950d7"), looks := true }, kinds := [], alts := [], laidByText := true, laidKinds := [.data, .data, .data, .data, .sentinel, .sentinel, .pinned], laidTests := true, laidLooks := .later }
def JobNoneUptoCardSaid : Prop := Claim7.holds Tryz.pinned (.plain (OpenSpec.upto jobNoneSpec)) jobNoneUptoCard
end Rows
end Go.Proofs.YtnjphclbpgajpaaGreatDoor
