/-
  DERIVED. GIVEN WITH THE SEED: THE CARDS: each row of YtoepoghmeajocaaGreatDoorRows.lean that lists a variable, with what it lists TIED to the program's text (the seventh form; the later family's looks); each row that meets fmt, with fmt's text TOLD by the authors' own Lean function (tested against real Go, not proved from fmt's source: count such statements apart). THE CARD IS WHAT COUNTS. Prove the row's statement (the work); the ties are given (YtoepoghmeajocaaGreatDoorTie.lean); close each card by the builder's one call (the guide's Derived/Test/ToyasCard.lean, 'card_holds'). Laid BY PROGRAM, IN A SANDBOX (cutbox-door.mjs). By AI agents, Wed Nov 11 2026. No macro, syntax, notation, axiom, sorry.
-/
import Derived.Test.YtoepoghmeajocaaGreatDoorRows
import GoSem.ClaimSeven
namespace Go.Proofs.YtoepoghmeajocaaGreatDoor
namespace Rows

/-- THE TIED CARD OF 'hortatorlaw14.PlanTurn'. -/
def planTurnCard : Claim7 := { stood := { row := planTurnRow, standIns := [], harness := (true, "eff37f60ec50b9d80453fe4c59c340925473cad4b2f75d1fb1e0df7ad539b24c"), looks := true }, kinds := [], alts := [], laidByText := true, laidKinds := [.data, .data, .data, .data, .sentinel, .sentinel, .pinned], laidTests := true, laidLooks := .later }
def PlanTurnCardSaid : Prop := Claim7.holds Tryz.pinned (.plain (OpenSpec.ofChange planTurnSpec)) planTurnCard

/-- THE TIED CARD OF 'hortatorlaw14.SplitOwn'. -/
def splitOwnCard : Claim7 := { stood := { row := splitOwnRow, standIns := [], harness := (true, "eff37f60ec50b9d80453fe4c59c340925473cad4b2f75d1fb1e0df7ad539b24c"), looks := true }, kinds := [], alts := [], laidByText := true, laidKinds := [.data, .data, .data, .data, .sentinel, .sentinel, .pinned], laidTests := true, laidLooks := .later }
def SplitOwnCardSaid : Prop := Claim7.holds Tryz.pinned (.plain (OpenSpec.ofChange splitOwnSpec)) splitOwnCard

/-- THE TIED CARD OF 'hortatorlaw18.AdmitFree'. -/
def admitFreeCard : Claim7 := { stood := { row := admitFreeRow, standIns := [], harness := (true, "eff37f60ec50b9d80453fe4c59c340925473cad4b2f75d1fb1e0df7ad539b24c"), looks := true }, kinds := [], alts := [], laidByText := true, laidKinds := [.data, .data, .data, .data, .sentinel, .sentinel, .pinned], laidTests := true, laidLooks := .later }
def AdmitFreeCardSaid : Prop := Claim7.holds Tryz.pinned (.plain (OpenSpec.ofChange admitFreeSpec)) admitFreeCard

/-- THE TIED CARD OF 'hortatorlaw18.AdmitFull'. -/
def admitFullCard : Claim7 := { stood := { row := admitFullRow, standIns := [], harness := (true, "eff37f60ec50b9d80453fe4c59c340925473cad4b2f75d1fb1e0df7ad539b24c"), looks := true }, kinds := [], alts := [], laidByText := true, laidKinds := [.data, .data, .data, .data, .sentinel, .sentinel, .pinned], laidTests := true, laidLooks := .later }
def AdmitFullCardSaid : Prop := Claim7.holds Tryz.pinned (.plain (OpenSpec.ofChange admitFullSpec)) admitFullCard

/-- THE TIED CARD OF 'hortatorlaw18.AdmitDrop'. -/
def admitDropCard : Claim7 := { stood := { row := admitDropRow, standIns := [], harness := (true, "eff37f60ec50b9d80453fe4c59c340925473cad4b2f75d1fb1e0df7ad539b24c"), looks := true }, kinds := [], alts := [], laidByText := true, laidKinds := [.data, .data, .data, .data, .sentinel, .sentinel, .pinned], laidTests := true, laidLooks := .later }
def AdmitDropCardSaid : Prop := Claim7.holds Tryz.pinned (.plain (OpenSpec.ofChange admitDropSpec)) admitDropCard

/-- THE TIED CARD OF 'hortatorlaw18.AdmitSplits'. -/
def admitSplitsCard : Claim7 := { stood := { row := admitSplitsRow, standIns := [], harness := (true, "eff37f60ec50b9d80453fe4c59c340925473cad4b2f75d1fb1e0df7ad539b24c"), looks := true }, kinds := [], alts := [], laidByText := true, laidKinds := [.data, .data, .data, .data, .sentinel, .sentinel, .pinned], laidTests := true, laidLooks := .later }
def AdmitSplitsCardSaid : Prop := Claim7.holds Tryz.pinned (.plain (OpenSpec.ofChange admitSplitsSpec)) admitSplitsCard

/-- THE TIED CARD OF 'hortatorlaw18.AdmitWaits'. -/
def admitWaitsCard : Claim7 := { stood := { row := admitWaitsRow, standIns := [], harness := (true, "eff37f60ec50b9d80453fe4c59c340925473cad4b2f75d1fb1e0df7ad539b24c"), looks := true }, kinds := [], alts := [], laidByText := true, laidKinds := [.data, .data, .data, .data, .sentinel, .sentinel, .pinned], laidTests := true, laidLooks := .later }
def AdmitWaitsCardSaid : Prop := Claim7.holds Tryz.pinned (.plain (OpenSpec.ofChange admitWaitsSpec)) admitWaitsCard

/-- THE TIED CARD OF 'hortatorlaw18.AdmitSame'. -/
def admitSameCard : Claim7 := { stood := { row := admitSameRow, standIns := [], harness := (true, "eff37f60ec50b9d80453fe4c59c340925473cad4b2f75d1fb1e0df7ad539b24c"), looks := true }, kinds := [], alts := [], laidByText := true, laidKinds := [.data, .data, .data, .data, .sentinel, .sentinel, .pinned], laidTests := true, laidLooks := .later }
def AdmitSameCardSaid : Prop := Claim7.holds Tryz.pinned (.plain (OpenSpec.ofChange admitSameSpec)) admitSameCard

/-- THE TIED CARD OF 'hortatorlaw18.AdmitAll'. -/
def admitAllCard : Claim7 := { stood := { row := admitAllRow, standIns := [], harness := (true, "eff37f60ec50b9d80453fe4c59c340925473cad4b2f75d1fb1e0df7ad539b24c"), looks := true }, kinds := [], alts := [], laidByText := true, laidKinds := [.data, .data, .data, .data, .sentinel, .sentinel, .pinned], laidTests := true, laidLooks := .later }
def AdmitAllCardSaid : Prop := Claim7.holds Tryz.pinned (.plain (OpenSpec.ofChange admitAllSpec)) admitAllCard

/-- THE TIED CARD OF 'hortatorlaw18.AdmitFits'. -/
def admitFitsCard : Claim7 := { stood := { row := admitFitsRow, standIns := [], harness := (true, "eff37f60ec50b9d80453fe4c59c340925473cad4b2f75d1fb1e0df7ad539b24c"), looks := true }, kinds := [], alts := [], laidByText := true, laidKinds := [.data, .data, .data, .data, .sentinel, .sentinel, .pinned], laidTests := true, laidLooks := .later }
def AdmitFitsCardSaid : Prop := Claim7.holds Tryz.pinned (.plain (OpenSpec.ofChange admitFitsSpec)) admitFitsCard

/-- THE TIED CARD OF 'hortatorlaw18.AdmitOwn'. -/
def admitOwnCard : Claim7 := { stood := { row := admitOwnRow, standIns := [], harness := (true, "eff37f60ec50b9d80453fe4c59c340925473cad4b2f75d1fb1e0df7ad539b24c"), looks := true }, kinds := [], alts := [], laidByText := true, laidKinds := [.data, .data, .data, .data, .sentinel, .sentinel, .pinned], laidTests := true, laidLooks := .later }
def AdmitOwnCardSaid : Prop := Claim7.holds Tryz.pinned (.plain (OpenSpec.ofChange admitOwnSpec)) admitOwnCard

/-- THE TIED CARD OF 'hortatorlaw18.AdmitNone'. -/
def admitNoneCard : Claim7 := { stood := { row := admitNoneRow, standIns := [], harness := (true, "eff37f60ec50b9d80453fe4c59c340925473cad4b2f75d1fb1e0df7ad539b24c"), looks := true }, kinds := [], alts := [], laidByText := true, laidKinds := [.data, .data, .data, .data, .sentinel, .sentinel, .pinned], laidTests := true, laidLooks := .later }
def AdmitNoneCardSaid : Prop := Claim7.holds Tryz.pinned (.plain (OpenSpec.ofChange admitNoneSpec)) admitNoneCard

/-- THE SECOND FORM's CARD OF 'hortatorlaw14.PlanTurn'. -/
def planTurnUptoCard : Claim7 := { stood := { row := planTurnUptoRow, standIns := [], harness := (true, "eff37f60ec50b9d80453fe4c59c340925473cad4b2f75d1fb1e0df7ad539b24c"), looks := true }, kinds := [], alts := [], laidByText := true, laidKinds := [.data, .data, .data, .data, .sentinel, .sentinel, .pinned], laidTests := true, laidLooks := .later }
def PlanTurnUptoCardSaid : Prop := Claim7.holds Tryz.pinned (.plain (OpenSpec.upto planTurnSpec)) planTurnUptoCard

/-- THE SECOND FORM's CARD OF 'hortatorlaw14.SplitOwn'. -/
def splitOwnUptoCard : Claim7 := { stood := { row := splitOwnUptoRow, standIns := [], harness := (true, "eff37f60ec50b9d80453fe4c59c340925473cad4b2f75d1fb1e0df7ad539b24c"), looks := true }, kinds := [], alts := [], laidByText := true, laidKinds := [.data, .data, .data, .data, .sentinel, .sentinel, .pinned], laidTests := true, laidLooks := .later }
def SplitOwnUptoCardSaid : Prop := Claim7.holds Tryz.pinned (.plain (OpenSpec.upto splitOwnSpec)) splitOwnUptoCard

/-- THE SECOND FORM's CARD OF 'hortatorlaw18.AdmitFree'. -/
def admitFreeUptoCard : Claim7 := { stood := { row := admitFreeUptoRow, standIns := [], harness := (true, "eff37f60ec50b9d80453fe4c59c340925473cad4b2f75d1fb1e0df7ad539b24c"), looks := true }, kinds := [], alts := [], laidByText := true, laidKinds := [.data, .data, .data, .data, .sentinel, .sentinel, .pinned], laidTests := true, laidLooks := .later }
def AdmitFreeUptoCardSaid : Prop := Claim7.holds Tryz.pinned (.plain (OpenSpec.upto admitFreeSpec)) admitFreeUptoCard

/-- THE SECOND FORM's CARD OF 'hortatorlaw18.AdmitFull'. -/
def admitFullUptoCard : Claim7 := { stood := { row := admitFullUptoRow, standIns := [], harness := (true, "eff37f60ec50b9d80453fe4c59c340925473cad4b2f75d1fb1e0df7ad539b24c"), looks := true }, kinds := [], alts := [], laidByText := true, laidKinds := [.data, .data, .data, .data, .sentinel, .sentinel, .pinned], laidTests := true, laidLooks := .later }
def AdmitFullUptoCardSaid : Prop := Claim7.holds Tryz.pinned (.plain (OpenSpec.upto admitFullSpec)) admitFullUptoCard

/-- THE SECOND FORM's CARD OF 'hortatorlaw18.AdmitDrop'. -/
def admitDropUptoCard : Claim7 := { stood := { row := admitDropUptoRow, standIns := [], harness := (true, "eff37f60ec50b9d80453fe4c59c340925473cad4b2f75d1fb1e0df7ad539b24c"), looks := true }, kinds := [], alts := [], laidByText := true, laidKinds := [.data, .data, .data, .data, .sentinel, .sentinel, .pinned], laidTests := true, laidLooks := .later }
def AdmitDropUptoCardSaid : Prop := Claim7.holds Tryz.pinned (.plain (OpenSpec.upto admitDropSpec)) admitDropUptoCard

/-- THE SECOND FORM's CARD OF 'hortatorlaw18.AdmitSplits'. -/
def admitSplitsUptoCard : Claim7 := { stood := { row := admitSplitsUptoRow, standIns := [], harness := (true, "eff37f60ec50b9d80453fe4c59c340925473cad4b2f75d1fb1e0df7ad539b24c"), looks := true }, kinds := [], alts := [], laidByText := true, laidKinds := [.data, .data, .data, .data, .sentinel, .sentinel, .pinned], laidTests := true, laidLooks := .later }
def AdmitSplitsUptoCardSaid : Prop := Claim7.holds Tryz.pinned (.plain (OpenSpec.upto admitSplitsSpec)) admitSplitsUptoCard

/-- THE SECOND FORM's CARD OF 'hortatorlaw18.AdmitWaits'. -/
def admitWaitsUptoCard : Claim7 := { stood := { row := admitWaitsUptoRow, standIns := [], harness := (true, "eff37f60ec50b9d80453fe4c59c340925473cad4b2f75d1fb1e0df7ad539b24c"), looks := true }, kinds := [], alts := [], laidByText := true, laidKinds := [.data, .data, .data, .data, .sentinel, .sentinel, .pinned], laidTests := true, laidLooks := .later }
def AdmitWaitsUptoCardSaid : Prop := Claim7.holds Tryz.pinned (.plain (OpenSpec.upto admitWaitsSpec)) admitWaitsUptoCard

/-- THE SECOND FORM's CARD OF 'hortatorlaw18.AdmitSame'. -/
def admitSameUptoCard : Claim7 := { stood := { row := admitSameUptoRow, standIns := [], harness := (true, "eff37f60ec50b9d80453fe4c59c340925473cad4b2f75d1fb1e0df7ad539b24c"), looks := true }, kinds := [], alts := [], laidByText := true, laidKinds := [.data, .data, .data, .data, .sentinel, .sentinel, .pinned], laidTests := true, laidLooks := .later }
def AdmitSameUptoCardSaid : Prop := Claim7.holds Tryz.pinned (.plain (OpenSpec.upto admitSameSpec)) admitSameUptoCard

/-- THE SECOND FORM's CARD OF 'hortatorlaw18.AdmitAll'. -/
def admitAllUptoCard : Claim7 := { stood := { row := admitAllUptoRow, standIns := [], harness := (true, "eff37f60ec50b9d80453fe4c59c340925473cad4b2f75d1fb1e0df7ad539b24c"), looks := true }, kinds := [], alts := [], laidByText := true, laidKinds := [.data, .data, .data, .data, .sentinel, .sentinel, .pinned], laidTests := true, laidLooks := .later }
def AdmitAllUptoCardSaid : Prop := Claim7.holds Tryz.pinned (.plain (OpenSpec.upto admitAllSpec)) admitAllUptoCard

/-- THE SECOND FORM's CARD OF 'hortatorlaw18.AdmitFits'. -/
def admitFitsUptoCard : Claim7 := { stood := { row := admitFitsUptoRow, standIns := [], harness := (true, "eff37f60ec50b9d80453fe4c59c340925473cad4b2f75d1fb1e0df7ad539b24c"), looks := true }, kinds := [], alts := [], laidByText := true, laidKinds := [.data, .data, .data, .data, .sentinel, .sentinel, .pinned], laidTests := true, laidLooks := .later }
def AdmitFitsUptoCardSaid : Prop := Claim7.holds Tryz.pinned (.plain (OpenSpec.upto admitFitsSpec)) admitFitsUptoCard

/-- THE SECOND FORM's CARD OF 'hortatorlaw18.AdmitOwn'. -/
def admitOwnUptoCard : Claim7 := { stood := { row := admitOwnUptoRow, standIns := [], harness := (true, "eff37f60ec50b9d80453fe4c59c340925473cad4b2f75d1fb1e0df7ad539b24c"), looks := true }, kinds := [], alts := [], laidByText := true, laidKinds := [.data, .data, .data, .data, .sentinel, .sentinel, .pinned], laidTests := true, laidLooks := .later }
def AdmitOwnUptoCardSaid : Prop := Claim7.holds Tryz.pinned (.plain (OpenSpec.upto admitOwnSpec)) admitOwnUptoCard

/-- THE SECOND FORM's CARD OF 'hortatorlaw18.AdmitNone'. -/
def admitNoneUptoCard : Claim7 := { stood := { row := admitNoneUptoRow, standIns := [], harness := (true, "eff37f60ec50b9d80453fe4c59c340925473cad4b2f75d1fb1e0df7ad539b24c"), looks := true }, kinds := [], alts := [], laidByText := true, laidKinds := [.data, .data, .data, .data, .sentinel, .sentinel, .pinned], laidTests := true, laidLooks := .later }
def AdmitNoneUptoCardSaid : Prop := Claim7.holds Tryz.pinned (.plain (OpenSpec.upto admitNoneSpec)) admitNoneUptoCard
end Rows
end Go.Proofs.YtoepoghmeajocaaGreatDoor
