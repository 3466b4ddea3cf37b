/-
  No cell of these rows narrows 'for every input' (looked for: loops, veiled, ifaces, maps, wideKeys, modest, calm, conditions, laid).
  DERIVED. THE GIVEN ROWS OF THIS SEAT. 2 by the template 'for every input the law returns true; each argument reads behind the call as it read before'; 0 by the template 'total and deterministic' (their statements: YtfijgegegfpfkaaTotals.lean).
  GIVEN WITH THE SEED: the statements are not yours to turn. If you find one false, say at which input.
  Laid BY PROGRAM, IN A SANDBOX (cutbox-rows.mjs): the forced cells as the released guide's own fill.sh prints them over the translation 40c09ef9fcdba0e0… (all of the seat's roots in one cut). By AI agents, Wed Nov 11 2026. No macro, syntax, notation, axiom, sorry.
-/
import Derived.Test.YtfijgegegfpfkaaChecked
import GoSem.Claim
import GoSem.ClaimJoined
import GoSem.ClaimMapViews
import Derived.JoinedTies
import Derived.KernelRfl
namespace Go.Proofs.Ytfijgegegfpfkaa
/- THE CELL 'sum', in the pinned program and in every row, IS THE sha256 OF THE DUMP (.gsa) THAT YtfijgegegfpfkaaProg.lean LOADS. Nothing in Lean hashes anything: it is a label: what it is worth is what the hold of that sum in a sandbox is worth. -/
noncomputable def Try.pinned : Pinned := { name := "ytfijgegegfpfkaa", sum := "40c09ef9fcdba0e0c3720e22918e59b856e3233c8bef1ae6afd4dcbc64203219", checked := Try.checked }
namespace Rows
def none {H : Type} : Left H := { results := [], args := [] }

/-- 'laws.FnExactSplitFew': WHATEVER THE INPUT: true; the input reads as it did. -/
def fnExactSplitFewSpec : ChangeSpec := { name := "fnExactSplitFew", fn := fun _ => fun
  | [d1, d2] => { results := [.lit (.bool true)], args := [d1, d2] }
  | _ => none }
def fnExactSplitFewRow : OpenClaim := { program := "ytfijgegegfpfkaa", sum := "40c09ef9fcdba0e0c3720e22918e59b856e3233c8bef1ae6afd4dcbc64203219", func := "loop.example/g00400/laws.FnExactSplitFew", spec := "fnExactSplitFew", inPlace := ["internal/reflectlite.ValueOf", "internal/reflectlite.Swapper", "(internal/reflectlite.Value).Len"], unfollowed := true, recurses := true, apart := false }
def FnExactSplitFewSaid : Prop := fnExactSplitFewRow.holds Try.pinned (OpenSpec.ofChange fnExactSplitFewSpec)

/-- ITS FALSE NEIGHBOUR: 'it returns false'. Refute it at one input. -/
def fnExactSplitFewWrong : ChangeSpec := { name := "fnExactSplitFew", fn := fun _ => fun
  | [d1, d2] => { results := [.lit (.bool false)], args := [d1, d2] }
  | _ => none }
def FnExactSplitFewWrongFalsely : Prop := fnExactSplitFewRow.holds Try.pinned (OpenSpec.ofChange fnExactSplitFewWrong)

/-- 'laws.FnSplit2': WHATEVER THE INPUT: true; the input reads as it did. -/
def fnSplit2Spec : ChangeSpec := { name := "fnSplit2", fn := fun _ => fun
  | [d] => { results := [.lit (.bool true)], args := [d] }
  | _ => none }
def fnSplit2Row : OpenClaim := { program := "ytfijgegegfpfkaa", sum := "40c09ef9fcdba0e0c3720e22918e59b856e3233c8bef1ae6afd4dcbc64203219", func := "loop.example/g00400/laws.FnSplit2", spec := "fnSplit2", inPlace := ["internal/reflectlite.ValueOf", "internal/reflectlite.Swapper", "(internal/reflectlite.Value).Len"], unfollowed := true, recurses := true, apart := false }
def FnSplit2Said : Prop := fnSplit2Row.holds Try.pinned (OpenSpec.ofChange fnSplit2Spec)

/-- ITS FALSE NEIGHBOUR: 'it returns false'. Refute it at one input. -/
def fnSplit2Wrong : ChangeSpec := { name := "fnSplit2", fn := fun _ => fun
  | [d] => { results := [.lit (.bool false)], args := [d] }
  | _ => none }
def FnSplit2WrongFalsely : Prop := fnSplit2Row.holds Try.pinned (OpenSpec.ofChange fnSplit2Wrong)

/- THE SECOND FORM. 'bulk': how many values and letters a reading holds, each counted each time it is reached (what is shared counts as often as it is met; a slice's spare places count too). A statement '..UptoSaid' is the law's where the arguments, and the package variables that the reading takes, are together of bulk at most 1048576: NARROWER than '..Said'. Prove '..Said' where nothing that the law and all that it calls make is longer than what came in: it says more and counts as full. Else prove '..UptoSaid'. A law counts once. -/
mutual
def uptoBulk {H : Type} : DataW H → Nat
  | .lit (.string bytes) => bytes.length + 1
  | .lit _ => 1
  | .nil => 1
  | .ptr d => uptoBulk d + 1
  | .slice elems spare => uptoBulkAll elems + uptoBulkAll spare + 1
  | .agg parts => uptoBulkAll parts + 1
  | .iface _ d => uptoBulk d + 1
  | .map entries => uptoBulkEntries entries + 1
  | .held _ => 1
def uptoBulkAll {H : Type} : List (DataW H) → Nat
  | [] => 0
  | d :: r => uptoBulk d + uptoBulkAll r
def uptoBulkEntries {H : Type} : List (Lit × DataW H) → Nat
  | [] => 0
  | x :: r => uptoBulkEntry x + uptoBulkEntries r
def uptoBulkEntry {H : Type} : Lit × DataW H → Nat
  | (.string bytes, d) => bytes.length + uptoBulk d + 1
  | (_, d) => uptoBulk d + 1
 end
def uptoSmall : (H : Type) → List (DataW H) → Bool := fun _ ds => decide (uptoBulkAll ds ≤ 1048576)
def OpenSpec.upto (s : _root_.Go.ChangeSpec) : _root_.Go.OpenSpec := { _root_.Go.OpenSpec.ofChange s with cond := some uptoSmall }

/-- 'laws.FnExactSplitFew', WHERE WHAT IT READS IS OF BULK AT MOST 1048576: true; the input reads as it did. -/
def fnExactSplitFewUptoRow : OpenClaim := { program := "ytfijgegegfpfkaa", sum := "40c09ef9fcdba0e0c3720e22918e59b856e3233c8bef1ae6afd4dcbc64203219", func := "loop.example/g00400/laws.FnExactSplitFew", spec := "fnExactSplitFew", inPlace := ["internal/reflectlite.ValueOf", "internal/reflectlite.Swapper", "(internal/reflectlite.Value).Len"], unfollowed := true, recurses := true, apart := false, narrowed := true }
def FnExactSplitFewUptoSaid : Prop := fnExactSplitFewUptoRow.holds Try.pinned (OpenSpec.upto fnExactSplitFewSpec)

/-- 'laws.FnSplit2', WHERE WHAT IT READS IS OF BULK AT MOST 1048576: true; the input reads as it did. -/
def fnSplit2UptoRow : OpenClaim := { program := "ytfijgegegfpfkaa", sum := "40c09ef9fcdba0e0c3720e22918e59b856e3233c8bef1ae6afd4dcbc64203219", func := "loop.example/g00400/laws.FnSplit2", spec := "fnSplit2", inPlace := ["internal/reflectlite.ValueOf", "internal/reflectlite.Swapper", "(internal/reflectlite.Value).Len"], unfollowed := true, recurses := true, apart := false, narrowed := true }
def FnSplit2UptoSaid : Prop := fnSplit2UptoRow.holds Try.pinned (OpenSpec.upto fnSplit2Spec)

end Rows
end Go.Proofs.Ytfijgegegfpfkaa
