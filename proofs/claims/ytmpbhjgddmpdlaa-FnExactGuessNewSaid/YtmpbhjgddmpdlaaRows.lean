/-
  No cell of these rows narrows 'for every input' (looked for: loops, veiled, ifaces, maps, wideKeys, modest, calm, conditions, laid).
  DERIVED. THE GIVEN ROWS OF THIS SEAT. 12 by the template 'for every input the law returns true; each argument reads behind the call as it read before'; 0 by the template 'total and deterministic' (their statements: YtmpbhjgddmpdlaaTotals.lean).
  GIVEN WITH THE SEED: the statements are not yours to turn. If you find one false, say at which input.
  Laid BY PROGRAM, IN A SANDBOX (cutbox-rows.mjs): the forced cells as the released guide's own fill.sh prints them over the translation f121c7376f593f4a… (all of the seat's roots in one cut). By AI agents, Wed Nov 11 2026. No macro, syntax, notation, axiom, sorry.
-/
import Derived.Test.YtmpbhjgddmpdlaaChecked
import GoSem.Claim
import GoSem.ClaimJoined
import GoSem.ClaimMapViews
import Derived.JoinedTies
import Derived.KernelRfl
namespace Go.Proofs.Ytmpbhjgddmpdlaa
/- THE CELL 'sum', in the pinned program and in every row, IS THE sha256 OF THE DUMP (.gsa) THAT YtmpbhjgddmpdlaaProg.lean LOADS. Nothing in Lean hashes anything: it is a label: what it is worth is what the hold of that sum in a sandbox is worth. -/
noncomputable def Try.pinned : Pinned := { name := "ytmpbhjgddmpdlaa", sum := "f121c7376f593f4a6cf8c7bb2b2fd537613fe1d24e104f2cc1f23ecf3686e7fd", checked := Try.checked }
namespace Rows
def none {H : Type} : Left H := { results := [], args := [] }

/-- 'laws.FnExactCheck': WHATEVER THE INPUT: true; the input reads as it did. -/
def fnExactCheckSpec : ChangeSpec := { name := "fnExactCheck", fn := fun _ => fun
  | [d] => { results := [.lit (.bool true)], args := [d] }
  | _ => none }
def fnExactCheckRow : OpenClaim := { program := "ytmpbhjgddmpdlaa", sum := "f121c7376f593f4a6cf8c7bb2b2fd537613fe1d24e104f2cc1f23ecf3686e7fd", func := "loop.example/g00400/laws.FnExactCheck", spec := "fnExactCheck", apart := false }
def FnExactCheckSaid : Prop := fnExactCheckRow.holds Try.pinned (OpenSpec.ofChange fnExactCheckSpec)

/-- ITS FALSE NEIGHBOUR: 'it returns false'. Refute it at one input. -/
def fnExactCheckWrong : ChangeSpec := { name := "fnExactCheck", fn := fun _ => fun
  | [d] => { results := [.lit (.bool false)], args := [d] }
  | _ => none }
def FnExactCheckWrongFalsely : Prop := fnExactCheckRow.holds Try.pinned (OpenSpec.ofChange fnExactCheckWrong)

/-- 'laws.FnExactBucketOk': WHATEVER THE INPUT: true; the input reads as it did. -/
def fnExactBucketOkSpec : ChangeSpec := { name := "fnExactBucketOk", fn := fun _ => fun
  | [d] => { results := [.lit (.bool true)], args := [d] }
  | _ => none }
def fnExactBucketOkRow : OpenClaim := { program := "ytmpbhjgddmpdlaa", sum := "f121c7376f593f4a6cf8c7bb2b2fd537613fe1d24e104f2cc1f23ecf3686e7fd", func := "loop.example/g00400/laws.FnExactBucketOk", spec := "fnExactBucketOk", apart := false }
def FnExactBucketOkSaid : Prop := fnExactBucketOkRow.holds Try.pinned (OpenSpec.ofChange fnExactBucketOkSpec)

/-- ITS FALSE NEIGHBOUR: 'it returns false'. Refute it at one input. -/
def fnExactBucketOkWrong : ChangeSpec := { name := "fnExactBucketOk", fn := fun _ => fun
  | [d] => { results := [.lit (.bool false)], args := [d] }
  | _ => none }
def FnExactBucketOkWrongFalsely : Prop := fnExactBucketOkRow.holds Try.pinned (OpenSpec.ofChange fnExactBucketOkWrong)

/-- 'laws.FnExactGuessOk': WHATEVER THE INPUT: true; the input reads as it did. -/
def fnExactGuessOkSpec : ChangeSpec := { name := "fnExactGuessOk", fn := fun _ => fun
  | [d] => { results := [.lit (.bool true)], args := [d] }
  | _ => none }
def fnExactGuessOkRow : OpenClaim := { program := "ytmpbhjgddmpdlaa", sum := "f121c7376f593f4a6cf8c7bb2b2fd537613fe1d24e104f2cc1f23ecf3686e7fd", func := "loop.example/g00400/laws.FnExactGuessOk", spec := "fnExactGuessOk", apart := false }
def FnExactGuessOkSaid : Prop := fnExactGuessOkRow.holds Try.pinned (OpenSpec.ofChange fnExactGuessOkSpec)

/-- ITS FALSE NEIGHBOUR: 'it returns false'. Refute it at one input. -/
def fnExactGuessOkWrong : ChangeSpec := { name := "fnExactGuessOk", fn := fun _ => fun
  | [d] => { results := [.lit (.bool false)], args := [d] }
  | _ => none }
def FnExactGuessOkWrongFalsely : Prop := fnExactGuessOkRow.holds Try.pinned (OpenSpec.ofChange fnExactGuessOkWrong)

/-- 'laws.FnExactPartsUsed': WHATEVER THE INPUT: true; the input reads as it did. -/
def fnExactPartsUsedSpec : ChangeSpec := { name := "fnExactPartsUsed", fn := fun _ => fun
  | [d] => { results := [.lit (.bool true)], args := [d] }
  | _ => none }
def fnExactPartsUsedRow : OpenClaim := { program := "ytmpbhjgddmpdlaa", sum := "f121c7376f593f4a6cf8c7bb2b2fd537613fe1d24e104f2cc1f23ecf3686e7fd", func := "loop.example/g00400/laws.FnExactPartsUsed", spec := "fnExactPartsUsed", apart := false }
def FnExactPartsUsedSaid : Prop := fnExactPartsUsedRow.holds Try.pinned (OpenSpec.ofChange fnExactPartsUsedSpec)

/-- ITS FALSE NEIGHBOUR: 'it returns false'. Refute it at one input. -/
def fnExactPartsUsedWrong : ChangeSpec := { name := "fnExactPartsUsed", fn := fun _ => fun
  | [d] => { results := [.lit (.bool false)], args := [d] }
  | _ => none }
def FnExactPartsUsedWrongFalsely : Prop := fnExactPartsUsedRow.holds Try.pinned (OpenSpec.ofChange fnExactPartsUsedWrong)

/-- 'laws.FnExactBucketNew': WHATEVER THE INPUT: true; the input reads as it did. -/
def fnExactBucketNewSpec : ChangeSpec := { name := "fnExactBucketNew", fn := fun _ => fun
  | [d1, d2, d3] => { results := [.lit (.bool true)], args := [d1, d2, d3] }
  | _ => none }
def fnExactBucketNewRow : OpenClaim := { program := "ytmpbhjgddmpdlaa", sum := "f121c7376f593f4a6cf8c7bb2b2fd537613fe1d24e104f2cc1f23ecf3686e7fd", func := "loop.example/g00400/laws.FnExactBucketNew", spec := "fnExactBucketNew", apart := false }
def FnExactBucketNewSaid : Prop := fnExactBucketNewRow.holds Try.pinned (OpenSpec.ofChange fnExactBucketNewSpec)

/-- ITS FALSE NEIGHBOUR: 'it returns false'. Refute it at one input. -/
def fnExactBucketNewWrong : ChangeSpec := { name := "fnExactBucketNew", fn := fun _ => fun
  | [d1, d2, d3] => { results := [.lit (.bool false)], args := [d1, d2, d3] }
  | _ => none }
def FnExactBucketNewWrongFalsely : Prop := fnExactBucketNewRow.holds Try.pinned (OpenSpec.ofChange fnExactBucketNewWrong)

/-- 'laws.FnExactFits': WHATEVER THE INPUT: true; the input reads as it did. -/
def fnExactFitsSpec : ChangeSpec := { name := "fnExactFits", fn := fun _ => fun
  | [d1, d2] => { results := [.lit (.bool true)], args := [d1, d2] }
  | _ => none }
def fnExactFitsRow : OpenClaim := { program := "ytmpbhjgddmpdlaa", sum := "f121c7376f593f4a6cf8c7bb2b2fd537613fe1d24e104f2cc1f23ecf3686e7fd", func := "loop.example/g00400/laws.FnExactFits", spec := "fnExactFits", apart := false }
def FnExactFitsSaid : Prop := fnExactFitsRow.holds Try.pinned (OpenSpec.ofChange fnExactFitsSpec)

/-- ITS FALSE NEIGHBOUR: 'it returns false'. Refute it at one input. -/
def fnExactFitsWrong : ChangeSpec := { name := "fnExactFits", fn := fun _ => fun
  | [d1, d2] => { results := [.lit (.bool false)], args := [d1, d2] }
  | _ => none }
def FnExactFitsWrongFalsely : Prop := fnExactFitsRow.holds Try.pinned (OpenSpec.ofChange fnExactFitsWrong)

/-- 'laws.FnExactBillOk': WHATEVER THE INPUT: true; the input reads as it did. -/
def fnExactBillOkSpec : ChangeSpec := { name := "fnExactBillOk", fn := fun _ => fun
  | [d] => { results := [.lit (.bool true)], args := [d] }
  | _ => none }
def fnExactBillOkRow : OpenClaim := { program := "ytmpbhjgddmpdlaa", sum := "f121c7376f593f4a6cf8c7bb2b2fd537613fe1d24e104f2cc1f23ecf3686e7fd", func := "loop.example/g00400/laws.FnExactBillOk", spec := "fnExactBillOk", apart := false }
def FnExactBillOkSaid : Prop := fnExactBillOkRow.holds Try.pinned (OpenSpec.ofChange fnExactBillOkSpec)

/-- ITS FALSE NEIGHBOUR: 'it returns false'. Refute it at one input. -/
def fnExactBillOkWrong : ChangeSpec := { name := "fnExactBillOk", fn := fun _ => fun
  | [d] => { results := [.lit (.bool false)], args := [d] }
  | _ => none }
def FnExactBillOkWrongFalsely : Prop := fnExactBillOkRow.holds Try.pinned (OpenSpec.ofChange fnExactBillOkWrong)

/-- 'laws.FnExactPartsSum': WHATEVER THE INPUT: true; the input reads as it did. -/
def fnExactPartsSumSpec : ChangeSpec := { name := "fnExactPartsSum", fn := fun _ => fun
  | [d] => { results := [.lit (.bool true)], args := [d] }
  | _ => none }
def fnExactPartsSumRow : OpenClaim := { program := "ytmpbhjgddmpdlaa", sum := "f121c7376f593f4a6cf8c7bb2b2fd537613fe1d24e104f2cc1f23ecf3686e7fd", func := "loop.example/g00400/laws.FnExactPartsSum", spec := "fnExactPartsSum", apart := false }
def FnExactPartsSumSaid : Prop := fnExactPartsSumRow.holds Try.pinned (OpenSpec.ofChange fnExactPartsSumSpec)

/-- ITS FALSE NEIGHBOUR: 'it returns false'. Refute it at one input. -/
def fnExactPartsSumWrong : ChangeSpec := { name := "fnExactPartsSum", fn := fun _ => fun
  | [d] => { results := [.lit (.bool false)], args := [d] }
  | _ => none }
def FnExactPartsSumWrongFalsely : Prop := fnExactPartsSumRow.holds Try.pinned (OpenSpec.ofChange fnExactPartsSumWrong)

/-- 'laws.FnExactHeard': WHATEVER THE INPUT: true; the input reads as it did. -/
def fnExactHeardSpec : ChangeSpec := { name := "fnExactHeard", fn := fun _ => fun
  | [d1, d2] => { results := [.lit (.bool true)], args := [d1, d2] }
  | _ => none }
def fnExactHeardRow : OpenClaim := { program := "ytmpbhjgddmpdlaa", sum := "f121c7376f593f4a6cf8c7bb2b2fd537613fe1d24e104f2cc1f23ecf3686e7fd", func := "loop.example/g00400/laws.FnExactHeard", spec := "fnExactHeard", apart := false }
def FnExactHeardSaid : Prop := fnExactHeardRow.holds Try.pinned (OpenSpec.ofChange fnExactHeardSpec)

/-- ITS FALSE NEIGHBOUR: 'it returns false'. Refute it at one input. -/
def fnExactHeardWrong : ChangeSpec := { name := "fnExactHeard", fn := fun _ => fun
  | [d1, d2] => { results := [.lit (.bool false)], args := [d1, d2] }
  | _ => none }
def FnExactHeardWrongFalsely : Prop := fnExactHeardRow.holds Try.pinned (OpenSpec.ofChange fnExactHeardWrong)

/-- 'laws.FnExactGuessNew': WHATEVER THE INPUT: true; the input reads as it did. -/
def fnExactGuessNewSpec : ChangeSpec := { name := "fnExactGuessNew", fn := fun _ => fun
  | [d] => { results := [.lit (.bool true)], args := [d] }
  | _ => none }
def fnExactGuessNewRow : OpenClaim := { program := "ytmpbhjgddmpdlaa", sum := "f121c7376f593f4a6cf8c7bb2b2fd537613fe1d24e104f2cc1f23ecf3686e7fd", func := "loop.example/g00400/laws.FnExactGuessNew", spec := "fnExactGuessNew", apart := false }
def FnExactGuessNewSaid : Prop := fnExactGuessNewRow.holds Try.pinned (OpenSpec.ofChange fnExactGuessNewSpec)

/-- ITS FALSE NEIGHBOUR: 'it returns false'. Refute it at one input. -/
def fnExactGuessNewWrong : ChangeSpec := { name := "fnExactGuessNew", fn := fun _ => fun
  | [d] => { results := [.lit (.bool false)], args := [d] }
  | _ => none }
def FnExactGuessNewWrongFalsely : Prop := fnExactGuessNewRow.holds Try.pinned (OpenSpec.ofChange fnExactGuessNewWrong)

/-- 'laws.FnExactWent': WHATEVER THE INPUT: true; the input reads as it did. -/
def fnExactWentSpec : ChangeSpec := { name := "fnExactWent", fn := fun _ => fun
  | [d1, d2] => { results := [.lit (.bool true)], args := [d1, d2] }
  | _ => none }
def fnExactWentRow : OpenClaim := { program := "ytmpbhjgddmpdlaa", sum := "f121c7376f593f4a6cf8c7bb2b2fd537613fe1d24e104f2cc1f23ecf3686e7fd", func := "loop.example/g00400/laws.FnExactWent", spec := "fnExactWent", apart := false }
def FnExactWentSaid : Prop := fnExactWentRow.holds Try.pinned (OpenSpec.ofChange fnExactWentSpec)

/-- ITS FALSE NEIGHBOUR: 'it returns false'. Refute it at one input. -/
def fnExactWentWrong : ChangeSpec := { name := "fnExactWent", fn := fun _ => fun
  | [d1, d2] => { results := [.lit (.bool false)], args := [d1, d2] }
  | _ => none }
def FnExactWentWrongFalsely : Prop := fnExactWentRow.holds Try.pinned (OpenSpec.ofChange fnExactWentWrong)

/-- 'laws.FnExactSplitEven': WHATEVER THE INPUT: true; the input reads as it did. -/
def fnExactSplitEvenSpec : ChangeSpec := { name := "fnExactSplitEven", fn := fun _ => fun
  | [d1, d2] => { results := [.lit (.bool true)], args := [d1, d2] }
  | _ => none }
def fnExactSplitEvenRow : OpenClaim := { program := "ytmpbhjgddmpdlaa", sum := "f121c7376f593f4a6cf8c7bb2b2fd537613fe1d24e104f2cc1f23ecf3686e7fd", func := "loop.example/g00400/laws.FnExactSplitEven", spec := "fnExactSplitEven", apart := false }
def FnExactSplitEvenSaid : Prop := fnExactSplitEvenRow.holds Try.pinned (OpenSpec.ofChange fnExactSplitEvenSpec)

/-- ITS FALSE NEIGHBOUR: 'it returns false'. Refute it at one input. -/
def fnExactSplitEvenWrong : ChangeSpec := { name := "fnExactSplitEven", fn := fun _ => fun
  | [d1, d2] => { results := [.lit (.bool false)], args := [d1, d2] }
  | _ => none }
def FnExactSplitEvenWrongFalsely : Prop := fnExactSplitEvenRow.holds Try.pinned (OpenSpec.ofChange fnExactSplitEvenWrong)

/- THE SECOND FORM. 'bulk': how many values and letters a reading holds, each counted each time it is reached (what is shared counts as often as it is met; a slice's spare places count too). A statement '..UptoSaid' is the law's where the arguments, and the package variables that the reading takes, are together of bulk at most 1048576: NARROWER than '..Said'. Prove '..Said' where nothing that the law and all that it calls make is longer than what came in: it says more and counts as full. Else prove '..UptoSaid'. A law counts once. -/
mutual
def uptoBulk {H : Type} : DataW H → Nat
  | .lit (.string bytes) => bytes.length + 1
  | .lit _ => 1
  | .nil => 1
  | .ptr d => uptoBulk d + 1
  | .slice elems spare => uptoBulkAll elems + uptoBulkAll spare + 1
  | .agg parts => uptoBulkAll parts + 1
  | .iface _ d => uptoBulk d + 1
  | .map entries => uptoBulkEntries entries + 1
  | .held _ => 1
def uptoBulkAll {H : Type} : List (DataW H) → Nat
  | [] => 0
  | d :: r => uptoBulk d + uptoBulkAll r
def uptoBulkEntries {H : Type} : List (Lit × DataW H) → Nat
  | [] => 0
  | x :: r => uptoBulkEntry x + uptoBulkEntries r
def uptoBulkEntry {H : Type} : Lit × DataW H → Nat
  | (.string bytes, d) => bytes.length + uptoBulk d + 1
  | (_, d) => uptoBulk d + 1
 end
def uptoSmall : (H : Type) → List (DataW H) → Bool := fun _ ds => decide (uptoBulkAll ds ≤ 1048576)
def OpenSpec.upto (s : _root_.Go.ChangeSpec) : _root_.Go.OpenSpec := { _root_.Go.OpenSpec.ofChange s with cond := some uptoSmall }

/-- 'laws.FnExactCheck', WHERE WHAT IT READS IS OF BULK AT MOST 1048576: true; the input reads as it did. -/
def fnExactCheckUptoRow : OpenClaim := { program := "ytmpbhjgddmpdlaa", sum := "f121c7376f593f4a6cf8c7bb2b2fd537613fe1d24e104f2cc1f23ecf3686e7fd", func := "loop.example/g00400/laws.FnExactCheck", spec := "fnExactCheck", apart := false, narrowed := true }
def FnExactCheckUptoSaid : Prop := fnExactCheckUptoRow.holds Try.pinned (OpenSpec.upto fnExactCheckSpec)

/-- 'laws.FnExactBucketOk', WHERE WHAT IT READS IS OF BULK AT MOST 1048576: true; the input reads as it did. -/
def fnExactBucketOkUptoRow : OpenClaim := { program := "ytmpbhjgddmpdlaa", sum := "f121c7376f593f4a6cf8c7bb2b2fd537613fe1d24e104f2cc1f23ecf3686e7fd", func := "loop.example/g00400/laws.FnExactBucketOk", spec := "fnExactBucketOk", apart := false, narrowed := true }
def FnExactBucketOkUptoSaid : Prop := fnExactBucketOkUptoRow.holds Try.pinned (OpenSpec.upto fnExactBucketOkSpec)

/-- 'laws.FnExactGuessOk', WHERE WHAT IT READS IS OF BULK AT MOST 1048576: true; the input reads as it did. -/
def fnExactGuessOkUptoRow : OpenClaim := { program := "ytmpbhjgddmpdlaa", sum := "f121c7376f593f4a6cf8c7bb2b2fd537613fe1d24e104f2cc1f23ecf3686e7fd", func := "loop.example/g00400/laws.FnExactGuessOk", spec := "fnExactGuessOk", apart := false, narrowed := true }
def FnExactGuessOkUptoSaid : Prop := fnExactGuessOkUptoRow.holds Try.pinned (OpenSpec.upto fnExactGuessOkSpec)

/-- 'laws.FnExactPartsUsed', WHERE WHAT IT READS IS OF BULK AT MOST 1048576: true; the input reads as it did. -/
def fnExactPartsUsedUptoRow : OpenClaim := { program := "ytmpbhjgddmpdlaa", sum := "f121c7376f593f4a6cf8c7bb2b2fd537613fe1d24e104f2cc1f23ecf3686e7fd", func := "loop.example/g00400/laws.FnExactPartsUsed", spec := "fnExactPartsUsed", apart := false, narrowed := true }
def FnExactPartsUsedUptoSaid : Prop := fnExactPartsUsedUptoRow.holds Try.pinned (OpenSpec.upto fnExactPartsUsedSpec)

/-- 'laws.FnExactBucketNew', WHERE WHAT IT READS IS OF BULK AT MOST 1048576: true; the input reads as it did. -/
def fnExactBucketNewUptoRow : OpenClaim := { program := "ytmpbhjgddmpdlaa", sum := "f121c7376f593f4a6cf8c7bb2b2fd537613fe1d24e104f2cc1f23ecf3686e7fd", func := "loop.example/g00400/laws.FnExactBucketNew", spec := "fnExactBucketNew", apart := false, narrowed := true }
def FnExactBucketNewUptoSaid : Prop := fnExactBucketNewUptoRow.holds Try.pinned (OpenSpec.upto fnExactBucketNewSpec)

/-- 'laws.FnExactFits', WHERE WHAT IT READS IS OF BULK AT MOST 1048576: true; the input reads as it did. -/
def fnExactFitsUptoRow : OpenClaim := { program := "ytmpbhjgddmpdlaa", sum := "f121c7376f593f4a6cf8c7bb2b2fd537613fe1d24e104f2cc1f23ecf3686e7fd", func := "loop.example/g00400/laws.FnExactFits", spec := "fnExactFits", apart := false, narrowed := true }
def FnExactFitsUptoSaid : Prop := fnExactFitsUptoRow.holds Try.pinned (OpenSpec.upto fnExactFitsSpec)

/-- 'laws.FnExactBillOk', WHERE WHAT IT READS IS OF BULK AT MOST 1048576: true; the input reads as it did. -/
def fnExactBillOkUptoRow : OpenClaim := { program := "ytmpbhjgddmpdlaa", sum := "f121c7376f593f4a6cf8c7bb2b2fd537613fe1d24e104f2cc1f23ecf3686e7fd", func := "loop.example/g00400/laws.FnExactBillOk", spec := "fnExactBillOk", apart := false, narrowed := true }
def FnExactBillOkUptoSaid : Prop := fnExactBillOkUptoRow.holds Try.pinned (OpenSpec.upto fnExactBillOkSpec)

/-- 'laws.FnExactPartsSum', WHERE WHAT IT READS IS OF BULK AT MOST 1048576: true; the input reads as it did. -/
def fnExactPartsSumUptoRow : OpenClaim := { program := "ytmpbhjgddmpdlaa", sum := "f121c7376f593f4a6cf8c7bb2b2fd537613fe1d24e104f2cc1f23ecf3686e7fd", func := "loop.example/g00400/laws.FnExactPartsSum", spec := "fnExactPartsSum", apart := false, narrowed := true }
def FnExactPartsSumUptoSaid : Prop := fnExactPartsSumUptoRow.holds Try.pinned (OpenSpec.upto fnExactPartsSumSpec)

/-- 'laws.FnExactHeard', WHERE WHAT IT READS IS OF BULK AT MOST 1048576: true; the input reads as it did. -/
def fnExactHeardUptoRow : OpenClaim := { program := "ytmpbhjgddmpdlaa", sum := "f121c7376f593f4a6cf8c7bb2b2fd537613fe1d24e104f2cc1f23ecf3686e7fd", func := "loop.example/g00400/laws.FnExactHeard", spec := "fnExactHeard", apart := false, narrowed := true }
def FnExactHeardUptoSaid : Prop := fnExactHeardUptoRow.holds Try.pinned (OpenSpec.upto fnExactHeardSpec)

/-- 'laws.FnExactGuessNew', WHERE WHAT IT READS IS OF BULK AT MOST 1048576: true; the input reads as it did. -/
def fnExactGuessNewUptoRow : OpenClaim := { program := "ytmpbhjgddmpdlaa", sum := "f121c7376f593f4a6cf8c7bb2b2fd537613fe1d24e104f2cc1f23ecf3686e7fd", func := "loop.example/g00400/laws.FnExactGuessNew", spec := "fnExactGuessNew", apart := false, narrowed := true }
def FnExactGuessNewUptoSaid : Prop := fnExactGuessNewUptoRow.holds Try.pinned (OpenSpec.upto fnExactGuessNewSpec)

/-- 'laws.FnExactWent', WHERE WHAT IT READS IS OF BULK AT MOST 1048576: true; the input reads as it did. -/
def fnExactWentUptoRow : OpenClaim := { program := "ytmpbhjgddmpdlaa", sum := "f121c7376f593f4a6cf8c7bb2b2fd537613fe1d24e104f2cc1f23ecf3686e7fd", func := "loop.example/g00400/laws.FnExactWent", spec := "fnExactWent", apart := false, narrowed := true }
def FnExactWentUptoSaid : Prop := fnExactWentUptoRow.holds Try.pinned (OpenSpec.upto fnExactWentSpec)

/-- 'laws.FnExactSplitEven', WHERE WHAT IT READS IS OF BULK AT MOST 1048576: true; the input reads as it did. -/
def fnExactSplitEvenUptoRow : OpenClaim := { program := "ytmpbhjgddmpdlaa", sum := "f121c7376f593f4a6cf8c7bb2b2fd537613fe1d24e104f2cc1f23ecf3686e7fd", func := "loop.example/g00400/laws.FnExactSplitEven", spec := "fnExactSplitEven", apart := false, narrowed := true }
def FnExactSplitEvenUptoSaid : Prop := fnExactSplitEvenUptoRow.holds Try.pinned (OpenSpec.upto fnExactSplitEvenSpec)

end Rows
end Go.Proofs.Ytmpbhjgddmpdlaa
