/-
  DERIVED. GIVEN WITH THE SEED: THE CARDS: each row of YtegnlijgjcfmlaaDoorRows.lean that lists a variable, with what it lists TIED to the program's text (the seventh form; the later family's looks); each row that meets fmt, with fmt's text TOLD by the authors' own Lean function (tested against real Go, not proved from fmt's source: count such statements apart). THE CARD IS WHAT COUNTS. Prove the row's statement (the work); the ties are given (YtegnlijgjcfmlaaDoorTie.lean); close each card by the builder's one call (the guide's Derived/Test/ToyasCard.lean, 'card_holds'). Laid BY PROGRAM, IN A SANDBOX (cutbox-door.mjs). By AI agents, Wed Nov 11 2026. No macro, syntax, notation, axiom, sorry.
-/
import Derived.Test.YtegnlijgjcfmlaaDoorRows
import GoSem.ClaimSeven
namespace Go.Proofs.YtegnlijgjcfmlaaDoor
namespace Rows

/-- THE TIED CARD OF 'laws.FnBest'. -/
def fnBestCard : Claim7 := { stood := { row := fnBestRow, standIns := [], harness := (true, "c0660de62a4924f88268a887d5431fa6c06a2cce32fff2e12f79e941ba4eb046"), looks := true }, kinds := [], alts := [], laidByText := true, laidKinds := [.data, .data, .data], laidTests := true, laidLooks := .later }
def FnBestCardSaid : Prop := Claim7.holds Tryd.pinned (.plain (OpenSpec.ofChange fnBestSpec)) fnBestCard

/-- THE TIED CARD OF 'laws.FnExactRouteText'. -/
def fnExactRouteTextCard : Claim7 := { stood := { row := fnExactRouteTextRow, standIns := [], harness := (true, "c0660de62a4924f88268a887d5431fa6c06a2cce32fff2e12f79e941ba4eb046"), looks := true }, kinds := [], alts := [], laidByText := true, laidKinds := [.data, .data, .data], laidTests := true, laidLooks := .later }
def FnExactRouteTextCardSaid : Prop := Claim7.holds Tryd.pinned (.plain (OpenSpec.ofChange fnExactRouteTextSpec)) fnExactRouteTextCard

/-- THE TIED CARD OF 'laws.FnExactBillText'. -/
def fnExactBillTextCard : Claim7 := { stood := { row := fnExactBillTextRow, standIns := [], harness := (true, "c0660de62a4924f88268a887d5431fa6c06a2cce32fff2e12f79e941ba4eb046"), looks := true }, kinds := [], alts := [], laidByText := true, laidKinds := [.data, .data, .data], laidTests := true, laidLooks := .later }
def FnExactBillTextCardSaid : Prop := Claim7.holds Tryd.pinned (.plain (OpenSpec.ofChange fnExactBillTextSpec)) fnExactBillTextCard

/-- THE TIED CARD OF 'laws.FnExactTextBill'. -/
def fnExactTextBillCard : Claim7 := { stood := { row := fnExactTextBillRow, standIns := [], harness := (true, "c0660de62a4924f88268a887d5431fa6c06a2cce32fff2e12f79e941ba4eb046"), looks := true }, kinds := [], alts := [], laidByText := true, laidKinds := [.data, .data, .data, .data, .sentinel, .sentinel, .pinned], laidTests := true, laidLooks := .later }
def FnExactTextBillCardSaid : Prop := Claim7.holds Tryd.pinned (.plain (OpenSpec.ofChange fnExactTextBillSpec)) fnExactTextBillCard

/-- THE TIED CARD OF 'laws.FnBill'. -/
def fnBillCard : Claim7 := { stood := { row := fnBillRow, standIns := [], harness := (true, "c0660de62a4924f88268a887d5431fa6c06a2cce32fff2e12f79e941ba4eb046"), looks := true }, kinds := [], alts := [], laidByText := true, laidKinds := [.data, .data, .data, .data, .sentinel, .sentinel, .pinned], laidTests := true, laidLooks := .later }
def FnBillCardSaid : Prop := Claim7.holds Tryd.pinned (.plain (OpenSpec.ofChange fnBillSpec)) fnBillCard

/-- THE TIED CARD OF 'laws.FnExactStepText'. -/
def fnExactStepTextCard : Claim7 := { stood := { row := fnExactStepTextRow, standIns := [], harness := (true, "c0660de62a4924f88268a887d5431fa6c06a2cce32fff2e12f79e941ba4eb046"), looks := true }, kinds := [], alts := [], laidByText := true, laidKinds := [.data, .data, .data, .data, .pinned], laidTests := true, laidLooks := .later }
def FnExactStepTextCardSaid : Prop := Claim7.holds Tryd.pinned (.plain (OpenSpec.ofChange fnExactStepTextSpec)) fnExactStepTextCard

/-- THE SECOND FORM's CARD OF 'laws.FnBest'. -/
def fnBestUptoCard : Claim7 := { stood := { row := fnBestUptoRow, standIns := [], harness := (true, "c0660de62a4924f88268a887d5431fa6c06a2cce32fff2e12f79e941ba4eb046"), looks := true }, kinds := [], alts := [], laidByText := true, laidKinds := [.data, .data, .data], laidTests := true, laidLooks := .later }
def FnBestUptoCardSaid : Prop := Claim7.holds Tryd.pinned (.plain (OpenSpec.upto fnBestSpec)) fnBestUptoCard

/-- THE SECOND FORM's CARD OF 'laws.FnExactRouteText'. -/
def fnExactRouteTextUptoCard : Claim7 := { stood := { row := fnExactRouteTextUptoRow, standIns := [], harness := (true, "c0660de62a4924f88268a887d5431fa6c06a2cce32fff2e12f79e941ba4eb046"), looks := true }, kinds := [], alts := [], laidByText := true, laidKinds := [.data, .data, .data], laidTests := true, laidLooks := .later }
def FnExactRouteTextUptoCardSaid : Prop := Claim7.holds Tryd.pinned (.plain (OpenSpec.upto fnExactRouteTextSpec)) fnExactRouteTextUptoCard

/-- THE SECOND FORM's CARD OF 'laws.FnExactBillText'. -/
def fnExactBillTextUptoCard : Claim7 := { stood := { row := fnExactBillTextUptoRow, standIns := [], harness := (true, "c0660de62a4924f88268a887d5431fa6c06a2cce32fff2e12f79e941ba4eb046"), looks := true }, kinds := [], alts := [], laidByText := true, laidKinds := [.data, .data, .data], laidTests := true, laidLooks := .later }
def FnExactBillTextUptoCardSaid : Prop := Claim7.holds Tryd.pinned (.plain (OpenSpec.upto fnExactBillTextSpec)) fnExactBillTextUptoCard

/-- THE SECOND FORM's CARD OF 'laws.FnExactTextBill'. -/
def fnExactTextBillUptoCard : Claim7 := { stood := { row := fnExactTextBillUptoRow, standIns := [], harness := (true, "c0660de62a4924f88268a887d5431fa6c06a2cce32fff2e12f79e941ba4eb046"), looks := true }, kinds := [], alts := [], laidByText := true, laidKinds := [.data, .data, .data, .data, .sentinel, .sentinel, .pinned], laidTests := true, laidLooks := .later }
def FnExactTextBillUptoCardSaid : Prop := Claim7.holds Tryd.pinned (.plain (OpenSpec.upto fnExactTextBillSpec)) fnExactTextBillUptoCard

/-- THE SECOND FORM's CARD OF 'laws.FnBill'. -/
def fnBillUptoCard : Claim7 := { stood := { row := fnBillUptoRow, standIns := [], harness := (true, "c0660de62a4924f88268a887d5431fa6c06a2cce32fff2e12f79e941ba4eb046"), looks := true }, kinds := [], alts := [], laidByText := true, laidKinds := [.data, .data, .data, .data, .sentinel, .sentinel, .pinned], laidTests := true, laidLooks := .later }
def FnBillUptoCardSaid : Prop := Claim7.holds Tryd.pinned (.plain (OpenSpec.upto fnBillSpec)) fnBillUptoCard

/-- THE SECOND FORM's CARD OF 'laws.FnExactStepText'. -/
def fnExactStepTextUptoCard : Claim7 := { stood := { row := fnExactStepTextUptoRow, standIns := [], harness := (true, "c0660de62a4924f88268a887d5431fa6c06a2cce32fff2e12f79e941ba4eb046"), looks := true }, kinds := [], alts := [], laidByText := true, laidKinds := [.data, .data, .data, .data, .pinned], laidTests := true, laidLooks := .later }
def FnExactStepTextUptoCardSaid : Prop := Claim7.holds Tryd.pinned (.plain (OpenSpec.upto fnExactStepTextSpec)) fnExactStepTextUptoCard
end Rows
end Go.Proofs.YtegnlijgjcfmlaaDoor
