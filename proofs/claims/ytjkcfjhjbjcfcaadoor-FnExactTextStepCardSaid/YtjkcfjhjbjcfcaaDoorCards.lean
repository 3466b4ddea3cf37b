/-
  DERIVED. GIVEN WITH THE SEED: THE CARDS: each row of YtjkcfjhjbjcfcaaDoorRows.lean that lists a variable, with what it lists TIED to the program's text (the seventh form; the later family's looks); each row that meets fmt, with fmt's text TOLD by the authors' own Lean function (tested against real Go, not proved from fmt's source: count such statements apart). THE CARD IS WHAT COUNTS. Prove the row's statement (the work); the ties are given (YtjkcfjhjbjcfcaaDoorTie.lean); close each card by the builder's one call (the guide's Derived/Test/ToyasCard.lean, 'card_holds'). Laid BY PROGRAM, IN A SANDBOX (cutbox-door.mjs). By AI agents, Wed Nov 11 2026. No macro, syntax, notation, axiom, sorry.
-/
import Derived.Test.YtjkcfjhjbjcfcaaDoorRows
import GoSem.ClaimSeven
namespace Go.Proofs.YtjkcfjhjbjcfcaaDoor
namespace Rows

/-- THE TIED CARD OF 'laws.FnExactTextStep'. -/
def fnExactTextStepCard : Claim7 := { stood := { row := fnExactTextStepRow, standIns := [], harness := (true, "cc5b2ce07b8e5a291dfb2e169f4bd406c2a47af5bcef1a5c9577467014e5a651"), looks := true }, kinds := [], alts := [], laidByText := true, laidKinds := [.data, .data, .data, .data, .sentinel, .sentinel, .pinned], laidTests := true, laidLooks := .later }
def FnExactTextStepCardSaid : Prop := Claim7.holds Tryd.pinned (.plain (OpenSpec.ofChange fnExactTextStepSpec)) fnExactTextStepCard

/-- THE SECOND FORM's CARD OF 'laws.FnExactTextStep'. -/
def fnExactTextStepUptoCard : Claim7 := { stood := { row := fnExactTextStepUptoRow, standIns := [], harness := (true, "cc5b2ce07b8e5a291dfb2e169f4bd406c2a47af5bcef1a5c9577467014e5a651"), looks := true }, kinds := [], alts := [], laidByText := true, laidKinds := [.data, .data, .data, .data, .sentinel, .sentinel, .pinned], laidTests := true, laidLooks := .later }
def FnExactTextStepUptoCardSaid : Prop := Claim7.holds Tryd.pinned (.plain (OpenSpec.upto fnExactTextStepSpec)) fnExactTextStepUptoCard
end Rows
end Go.Proofs.YtjkcfjhjbjcfcaaDoor
