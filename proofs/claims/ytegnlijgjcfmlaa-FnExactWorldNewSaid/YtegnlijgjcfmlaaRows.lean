/-
  No cell of these rows narrows 'for every input' (looked for: loops, veiled, ifaces, maps, wideKeys, modest, calm, conditions, laid).
  DERIVED. THE GIVEN ROWS OF THIS SEAT. 6 by the template 'for every input the law returns true; each argument reads behind the call as it read before'; 0 by the template 'total and deterministic' (their statements: YtegnlijgjcfmlaaTotals.lean).
  GIVEN WITH THE SEED: the statements are not yours to turn. If you find one false, say at which input.
  Laid BY PROGRAM, IN A SANDBOX (cutbox-rows.mjs): the forced cells as the released guide's own fill.sh prints them over the translation e129cbc85862cef2… (all of the seat's roots in one cut). By AI agents, Wed Nov 11 2026. No macro, syntax, notation, axiom, sorry.
-/
import Derived.Test.YtegnlijgjcfmlaaChecked
import GoSem.Claim
import GoSem.ClaimJoined
import GoSem.ClaimMapViews
import Derived.JoinedTies
import Derived.KernelRfl
namespace Go.Proofs.Ytegnlijgjcfmlaa
/- THE CELL 'sum', in the pinned program and in every row, IS THE sha256 OF THE DUMP (.gsa) THAT YtegnlijgjcfmlaaProg.lean LOADS. Nothing in Lean hashes anything: it is a label: what it is worth is what the hold of that sum in a sandbox is worth. -/
noncomputable def Try.pinned : Pinned := { name := "ytegnlijgjcfmlaa", sum := "e129cbc85862cef28c466f57630e5eb3eab4b82b2acafc0f1ef8b0376a87b51a", checked := Try.checked }
namespace Rows
def none {H : Type} : Left H := { results := [], args := [] }

/-- 'laws.FnEven': WHATEVER THE INPUT: true; the input reads as it did. -/
def fnEvenSpec : ChangeSpec := { name := "fnEven", fn := fun _ => fun
  | [d] => { results := [.lit (.bool true)], args := [d] }
  | _ => none }
def fnEvenRow : OpenClaim := { program := "ytegnlijgjcfmlaa", sum := "e129cbc85862cef28c466f57630e5eb3eab4b82b2acafc0f1ef8b0376a87b51a", func := "loop.example/g00400/laws.FnEven", spec := "fnEven", apart := false }
def FnEvenSaid : Prop := fnEvenRow.holds Try.pinned (OpenSpec.ofChange fnEvenSpec)

/-- ITS FALSE NEIGHBOUR: 'it returns false'. Refute it at one input. -/
def fnEvenWrong : ChangeSpec := { name := "fnEven", fn := fun _ => fun
  | [d] => { results := [.lit (.bool false)], args := [d] }
  | _ => none }
def FnEvenWrongFalsely : Prop := fnEvenRow.holds Try.pinned (OpenSpec.ofChange fnEvenWrong)

/-- 'laws.FnGuess': WHATEVER THE INPUT: true; the input reads as it did. -/
def fnGuessSpec : ChangeSpec := { name := "fnGuess", fn := fun _ => fun
  | [d] => { results := [.lit (.bool true)], args := [d] }
  | _ => none }
def fnGuessRow : OpenClaim := { program := "ytegnlijgjcfmlaa", sum := "e129cbc85862cef28c466f57630e5eb3eab4b82b2acafc0f1ef8b0376a87b51a", func := "loop.example/g00400/laws.FnGuess", spec := "fnGuess", named := ["math/bits.divideError", "math/bits.overflowError"], apart := false }
def FnGuessSaid : Prop := fnGuessRow.holds Try.pinned (OpenSpec.ofChange fnGuessSpec)

/-- ITS FALSE NEIGHBOUR: 'it returns false'. Refute it at one input. -/
def fnGuessWrong : ChangeSpec := { name := "fnGuess", fn := fun _ => fun
  | [d] => { results := [.lit (.bool false)], args := [d] }
  | _ => none }
def FnGuessWrongFalsely : Prop := fnGuessRow.holds Try.pinned (OpenSpec.ofChange fnGuessWrong)

/-- 'laws.FnChance': WHATEVER THE INPUT: true; the input reads as it did. -/
def fnChanceSpec : ChangeSpec := { name := "fnChance", fn := fun _ => fun
  | [d] => { results := [.lit (.bool true)], args := [d] }
  | _ => none }
def fnChanceRow : OpenClaim := { program := "ytegnlijgjcfmlaa", sum := "e129cbc85862cef28c466f57630e5eb3eab4b82b2acafc0f1ef8b0376a87b51a", func := "loop.example/g00400/laws.FnChance", spec := "fnChance", named := ["math/bits.divideError", "math/bits.overflowError"], apart := false }
def FnChanceSaid : Prop := fnChanceRow.holds Try.pinned (OpenSpec.ofChange fnChanceSpec)

/-- ITS FALSE NEIGHBOUR: 'it returns false'. Refute it at one input. -/
def fnChanceWrong : ChangeSpec := { name := "fnChance", fn := fun _ => fun
  | [d] => { results := [.lit (.bool false)], args := [d] }
  | _ => none }
def FnChanceWrongFalsely : Prop := fnChanceRow.holds Try.pinned (OpenSpec.ofChange fnChanceWrong)

/-- 'laws.FnRoute': WHATEVER THE INPUT: true; the input reads as it did. -/
def fnRouteSpec : ChangeSpec := { name := "fnRoute", fn := fun _ => fun
  | [d] => { results := [.lit (.bool true)], args := [d] }
  | _ => none }
def fnRouteRow : OpenClaim := { program := "ytegnlijgjcfmlaa", sum := "e129cbc85862cef28c466f57630e5eb3eab4b82b2acafc0f1ef8b0376a87b51a", func := "loop.example/g00400/laws.FnRoute", spec := "fnRoute", recurses := true, named := ["math/bits.divideError", "math/bits.overflowError"], apart := false }
def FnRouteSaid : Prop := fnRouteRow.holds Try.pinned (OpenSpec.ofChange fnRouteSpec)

/-- ITS FALSE NEIGHBOUR: 'it returns false'. Refute it at one input. -/
def fnRouteWrong : ChangeSpec := { name := "fnRoute", fn := fun _ => fun
  | [d] => { results := [.lit (.bool false)], args := [d] }
  | _ => none }
def FnRouteWrongFalsely : Prop := fnRouteRow.holds Try.pinned (OpenSpec.ofChange fnRouteWrong)

/-- 'laws.FnSplit2': WHATEVER THE INPUT: true; the input reads as it did. -/
def fnSplit2Spec : ChangeSpec := { name := "fnSplit2", fn := fun _ => fun
  | [d] => { results := [.lit (.bool true)], args := [d] }
  | _ => none }
def fnSplit2Row : OpenClaim := { program := "ytegnlijgjcfmlaa", sum := "e129cbc85862cef28c466f57630e5eb3eab4b82b2acafc0f1ef8b0376a87b51a", func := "loop.example/g00400/laws.FnSplit2", spec := "fnSplit2", inPlace := ["internal/reflectlite.ValueOf", "internal/reflectlite.Swapper", "(internal/reflectlite.Value).Len"], unfollowed := true, recurses := true, apart := false }
def FnSplit2Said : Prop := fnSplit2Row.holds Try.pinned (OpenSpec.ofChange fnSplit2Spec)

/-- ITS FALSE NEIGHBOUR: 'it returns false'. Refute it at one input. -/
def fnSplit2Wrong : ChangeSpec := { name := "fnSplit2", fn := fun _ => fun
  | [d] => { results := [.lit (.bool false)], args := [d] }
  | _ => none }
def FnSplit2WrongFalsely : Prop := fnSplit2Row.holds Try.pinned (OpenSpec.ofChange fnSplit2Wrong)

/-- 'laws.FnExactWorldNew': WHATEVER THE INPUT: true; the input reads as it did. -/
def fnExactWorldNewSpec : ChangeSpec := { name := "fnExactWorldNew", fn := fun _ => fun
  | [d] => { results := [.lit (.bool true)], args := [d] }
  | _ => none }
def fnExactWorldNewRow : OpenClaim := { program := "ytegnlijgjcfmlaa", sum := "e129cbc85862cef28c466f57630e5eb3eab4b82b2acafc0f1ef8b0376a87b51a", func := "loop.example/g00400/laws.FnExactWorldNew", spec := "fnExactWorldNew", apart := false }
def FnExactWorldNewSaid : Prop := fnExactWorldNewRow.holds Try.pinned (OpenSpec.ofChange fnExactWorldNewSpec)

/-- ITS FALSE NEIGHBOUR: 'it returns false'. Refute it at one input. -/
def fnExactWorldNewWrong : ChangeSpec := { name := "fnExactWorldNew", fn := fun _ => fun
  | [d] => { results := [.lit (.bool false)], args := [d] }
  | _ => none }
def FnExactWorldNewWrongFalsely : Prop := fnExactWorldNewRow.holds Try.pinned (OpenSpec.ofChange fnExactWorldNewWrong)

/- THE SECOND FORM. 'bulk': how many values and letters a reading holds, each counted each time it is reached (what is shared counts as often as it is met; a slice's spare places count too). A statement '..UptoSaid' is the law's where the arguments, and the package variables that the reading takes, are together of bulk at most 1048576: NARROWER than '..Said'. Prove '..Said' where nothing that the law and all that it calls make is longer than what came in: it says more and counts as full. Else prove '..UptoSaid'. A law counts once. -/
mutual
def uptoBulk {H : Type} : DataW H → Nat
  | .lit (.string bytes) => bytes.length + 1
  | .lit _ => 1
  | .nil => 1
  | .ptr d => uptoBulk d + 1
  | .slice elems spare => uptoBulkAll elems + uptoBulkAll spare + 1
  | .agg parts => uptoBulkAll parts + 1
  | .iface _ d => uptoBulk d + 1
  | .map entries => uptoBulkEntries entries + 1
  | .held _ => 1
def uptoBulkAll {H : Type} : List (DataW H) → Nat
  | [] => 0
  | d :: r => uptoBulk d + uptoBulkAll r
def uptoBulkEntries {H : Type} : List (Lit × DataW H) → Nat
  | [] => 0
  | x :: r => uptoBulkEntry x + uptoBulkEntries r
def uptoBulkEntry {H : Type} : Lit × DataW H → Nat
  | (.string bytes, d) => bytes.length + uptoBulk d + 1
  | (_, d) => uptoBulk d + 1
 end
def uptoSmall : (H : Type) → List (DataW H) → Bool := fun _ ds => decide (uptoBulkAll ds ≤ 1048576)
def OpenSpec.upto (s : _root_.Go.ChangeSpec) : _root_.Go.OpenSpec := { _root_.Go.OpenSpec.ofChange s with cond := some uptoSmall }

/-- 'laws.FnEven', WHERE WHAT IT READS IS OF BULK AT MOST 1048576: true; the input reads as it did. -/
def fnEvenUptoRow : OpenClaim := { program := "ytegnlijgjcfmlaa", sum := "e129cbc85862cef28c466f57630e5eb3eab4b82b2acafc0f1ef8b0376a87b51a", func := "loop.example/g00400/laws.FnEven", spec := "fnEven", apart := false, narrowed := true }
def FnEvenUptoSaid : Prop := fnEvenUptoRow.holds Try.pinned (OpenSpec.upto fnEvenSpec)

/-- 'laws.FnGuess', WHERE WHAT IT READS IS OF BULK AT MOST 1048576: true; the input reads as it did. -/
def fnGuessUptoRow : OpenClaim := { program := "ytegnlijgjcfmlaa", sum := "e129cbc85862cef28c466f57630e5eb3eab4b82b2acafc0f1ef8b0376a87b51a", func := "loop.example/g00400/laws.FnGuess", spec := "fnGuess", named := ["math/bits.divideError", "math/bits.overflowError"], apart := false, narrowed := true }
def FnGuessUptoSaid : Prop := fnGuessUptoRow.holds Try.pinned (OpenSpec.upto fnGuessSpec)

/-- 'laws.FnChance', WHERE WHAT IT READS IS OF BULK AT MOST 1048576: true; the input reads as it did. -/
def fnChanceUptoRow : OpenClaim := { program := "ytegnlijgjcfmlaa", sum := "e129cbc85862cef28c466f57630e5eb3eab4b82b2acafc0f1ef8b0376a87b51a", func := "loop.example/g00400/laws.FnChance", spec := "fnChance", named := ["math/bits.divideError", "math/bits.overflowError"], apart := false, narrowed := true }
def FnChanceUptoSaid : Prop := fnChanceUptoRow.holds Try.pinned (OpenSpec.upto fnChanceSpec)

/-- 'laws.FnRoute', WHERE WHAT IT READS IS OF BULK AT MOST 1048576: true; the input reads as it did. -/
def fnRouteUptoRow : OpenClaim := { program := "ytegnlijgjcfmlaa", sum := "e129cbc85862cef28c466f57630e5eb3eab4b82b2acafc0f1ef8b0376a87b51a", func := "loop.example/g00400/laws.FnRoute", spec := "fnRoute", recurses := true, named := ["math/bits.divideError", "math/bits.overflowError"], apart := false, narrowed := true }
def FnRouteUptoSaid : Prop := fnRouteUptoRow.holds Try.pinned (OpenSpec.upto fnRouteSpec)

/-- 'laws.FnSplit2', WHERE WHAT IT READS IS OF BULK AT MOST 1048576: true; the input reads as it did. -/
def fnSplit2UptoRow : OpenClaim := { program := "ytegnlijgjcfmlaa", sum := "e129cbc85862cef28c466f57630e5eb3eab4b82b2acafc0f1ef8b0376a87b51a", func := "loop.example/g00400/laws.FnSplit2", spec := "fnSplit2", inPlace := ["internal/reflectlite.ValueOf", "internal/reflectlite.Swapper", "(internal/reflectlite.Value).Len"], unfollowed := true, recurses := true, apart := false, narrowed := true }
def FnSplit2UptoSaid : Prop := fnSplit2UptoRow.holds Try.pinned (OpenSpec.upto fnSplit2Spec)

/-- 'laws.FnExactWorldNew', WHERE WHAT IT READS IS OF BULK AT MOST 1048576: true; the input reads as it did. -/
def fnExactWorldNewUptoRow : OpenClaim := { program := "ytegnlijgjcfmlaa", sum := "e129cbc85862cef28c466f57630e5eb3eab4b82b2acafc0f1ef8b0376a87b51a", func := "loop.example/g00400/laws.FnExactWorldNew", spec := "fnExactWorldNew", apart := false, narrowed := true }
def FnExactWorldNewUptoSaid : Prop := fnExactWorldNewUptoRow.holds Try.pinned (OpenSpec.upto fnExactWorldNewSpec)

end Rows
end Go.Proofs.Ytegnlijgjcfmlaa
