/-
  No cell of these rows narrows 'for every input' (looked for: loops, veiled, ifaces, maps, wideKeys, modest, calm, conditions, laid).
  DERIVED. THE GIVEN ROWS OF THIS SEAT. 12 by the template 'for every input the law returns true; each argument reads behind the call as it read before'; 0 by the template 'total and deterministic' (their statements: YtddfdomhapaefaaTotals.lean).
  GIVEN WITH THE SEED: the statements are not yours to turn. If you find one false, say at which input.
  Laid BY PROGRAM, IN A SANDBOX (cutbox-rows.mjs): the forced cells as the released guide's own fill.sh prints them over the translation 193dbc5ef2a09323… (all of the seat's roots in one cut). By AI agents, Wed Nov 11 2026. No macro, syntax, notation, axiom, sorry.
-/
import Derived.Test.YtddfdomhapaefaaChecked
import GoSem.Claim
import GoSem.ClaimJoined
import GoSem.ClaimMapViews
import Derived.JoinedTies
import Derived.KernelRfl
namespace Go.Proofs.Ytddfdomhapaefaa
/- THE CELL 'sum', in the pinned program and in every row, IS THE sha256 OF THE DUMP (.gsa) THAT YtddfdomhapaefaaProg.lean LOADS. Nothing in Lean hashes anything: it is a label: what it is worth is what the hold of that sum in a sandbox is worth. -/
noncomputable def Try.pinned : Pinned := { name := "ytddfdomhapaefaa", sum := "193dbc5ef2a09323a699d16cb48cd3d8e5842a790743cbfa2981c60910a92c23", checked := Try.checked }
namespace Rows
def none {H : Type} : Left H := { results := [], args := [] }

/-- 'laws.FnExactStuck': WHATEVER THE INPUT: true; the input reads as it did. -/
def fnExactStuckSpec : ChangeSpec := { name := "fnExactStuck", fn := fun _ => fun
  | [d1, d2] => { results := [.lit (.bool true)], args := [d1, d2] }
  | _ => none }
def fnExactStuckRow : OpenClaim := { program := "ytddfdomhapaefaa", sum := "193dbc5ef2a09323a699d16cb48cd3d8e5842a790743cbfa2981c60910a92c23", func := "loop.example/g00400/laws.FnExactStuck", spec := "fnExactStuck", apart := false }
def FnExactStuckSaid : Prop := fnExactStuckRow.holds Try.pinned (OpenSpec.ofChange fnExactStuckSpec)

/-- ITS FALSE NEIGHBOUR: 'it returns false'. Refute it at one input. -/
def fnExactStuckWrong : ChangeSpec := { name := "fnExactStuck", fn := fun _ => fun
  | [d1, d2] => { results := [.lit (.bool false)], args := [d1, d2] }
  | _ => none }
def FnExactStuckWrongFalsely : Prop := fnExactStuckRow.holds Try.pinned (OpenSpec.ofChange fnExactStuckWrong)

/-- 'laws.FnExactBillDue': WHATEVER THE INPUT: true; the input reads as it did. -/
def fnExactBillDueSpec : ChangeSpec := { name := "fnExactBillDue", fn := fun _ => fun
  | [d1, d2] => { results := [.lit (.bool true)], args := [d1, d2] }
  | _ => none }
def fnExactBillDueRow : OpenClaim := { program := "ytddfdomhapaefaa", sum := "193dbc5ef2a09323a699d16cb48cd3d8e5842a790743cbfa2981c60910a92c23", func := "loop.example/g00400/laws.FnExactBillDue", spec := "fnExactBillDue", apart := false }
def FnExactBillDueSaid : Prop := fnExactBillDueRow.holds Try.pinned (OpenSpec.ofChange fnExactBillDueSpec)

/-- ITS FALSE NEIGHBOUR: 'it returns false'. Refute it at one input. -/
def fnExactBillDueWrong : ChangeSpec := { name := "fnExactBillDue", fn := fun _ => fun
  | [d1, d2] => { results := [.lit (.bool false)], args := [d1, d2] }
  | _ => none }
def FnExactBillDueWrongFalsely : Prop := fnExactBillDueRow.holds Try.pinned (OpenSpec.ofChange fnExactBillDueWrong)

/-- 'laws.FnExactRoadsOk': WHATEVER THE INPUT: true; the input reads as it did. -/
def fnExactRoadsOkSpec : ChangeSpec := { name := "fnExactRoadsOk", fn := fun _ => fun
  | [d] => { results := [.lit (.bool true)], args := [d] }
  | _ => none }
def fnExactRoadsOkRow : OpenClaim := { program := "ytddfdomhapaefaa", sum := "193dbc5ef2a09323a699d16cb48cd3d8e5842a790743cbfa2981c60910a92c23", func := "loop.example/g00400/laws.FnExactRoadsOk", spec := "fnExactRoadsOk", apart := false }
def FnExactRoadsOkSaid : Prop := fnExactRoadsOkRow.holds Try.pinned (OpenSpec.ofChange fnExactRoadsOkSpec)

/-- ITS FALSE NEIGHBOUR: 'it returns false'. Refute it at one input. -/
def fnExactRoadsOkWrong : ChangeSpec := { name := "fnExactRoadsOk", fn := fun _ => fun
  | [d] => { results := [.lit (.bool false)], args := [d] }
  | _ => none }
def FnExactRoadsOkWrongFalsely : Prop := fnExactRoadsOkRow.holds Try.pinned (OpenSpec.ofChange fnExactRoadsOkWrong)

/-- 'laws.FnExactSplit': WHATEVER THE INPUT: true; the input reads as it did. -/
def fnExactSplitSpec : ChangeSpec := { name := "fnExactSplit", fn := fun _ => fun
  | [d1, d2] => { results := [.lit (.bool true)], args := [d1, d2] }
  | _ => none }
def fnExactSplitRow : OpenClaim := { program := "ytddfdomhapaefaa", sum := "193dbc5ef2a09323a699d16cb48cd3d8e5842a790743cbfa2981c60910a92c23", func := "loop.example/g00400/laws.FnExactSplit", spec := "fnExactSplit", apart := false }
def FnExactSplitSaid : Prop := fnExactSplitRow.holds Try.pinned (OpenSpec.ofChange fnExactSplitSpec)

/-- ITS FALSE NEIGHBOUR: 'it returns false'. Refute it at one input. -/
def fnExactSplitWrong : ChangeSpec := { name := "fnExactSplit", fn := fun _ => fun
  | [d1, d2] => { results := [.lit (.bool false)], args := [d1, d2] }
  | _ => none }
def FnExactSplitWrongFalsely : Prop := fnExactSplitRow.holds Try.pinned (OpenSpec.ofChange fnExactSplitWrong)

/-- 'laws.FnExactRouteOk': WHATEVER THE INPUT: true; the input reads as it did. -/
def fnExactRouteOkSpec : ChangeSpec := { name := "fnExactRouteOk", fn := fun _ => fun
  | [d1, d2] => { results := [.lit (.bool true)], args := [d1, d2] }
  | _ => none }
def fnExactRouteOkRow : OpenClaim := { program := "ytddfdomhapaefaa", sum := "193dbc5ef2a09323a699d16cb48cd3d8e5842a790743cbfa2981c60910a92c23", func := "loop.example/g00400/laws.FnExactRouteOk", spec := "fnExactRouteOk", apart := false }
def FnExactRouteOkSaid : Prop := fnExactRouteOkRow.holds Try.pinned (OpenSpec.ofChange fnExactRouteOkSpec)

/-- ITS FALSE NEIGHBOUR: 'it returns false'. Refute it at one input. -/
def fnExactRouteOkWrong : ChangeSpec := { name := "fnExactRouteOk", fn := fun _ => fun
  | [d1, d2] => { results := [.lit (.bool false)], args := [d1, d2] }
  | _ => none }
def FnExactRouteOkWrongFalsely : Prop := fnExactRouteOkRow.holds Try.pinned (OpenSpec.ofChange fnExactRouteOkWrong)

/-- 'laws.FnExactChance': WHATEVER THE INPUT: true; the input reads as it did. -/
def fnExactChanceSpec : ChangeSpec := { name := "fnExactChance", fn := fun _ => fun
  | [d1, d2] => { results := [.lit (.bool true)], args := [d1, d2] }
  | _ => none }
def fnExactChanceRow : OpenClaim := { program := "ytddfdomhapaefaa", sum := "193dbc5ef2a09323a699d16cb48cd3d8e5842a790743cbfa2981c60910a92c23", func := "loop.example/g00400/laws.FnExactChance", spec := "fnExactChance", named := ["math/bits.divideError", "math/bits.overflowError"], apart := false }
def FnExactChanceSaid : Prop := fnExactChanceRow.holds Try.pinned (OpenSpec.ofChange fnExactChanceSpec)

/-- ITS FALSE NEIGHBOUR: 'it returns false'. Refute it at one input. -/
def fnExactChanceWrong : ChangeSpec := { name := "fnExactChance", fn := fun _ => fun
  | [d1, d2] => { results := [.lit (.bool false)], args := [d1, d2] }
  | _ => none }
def FnExactChanceWrongFalsely : Prop := fnExactChanceRow.holds Try.pinned (OpenSpec.ofChange fnExactChanceWrong)

/-- 'laws.FnExactBillsPaid': WHATEVER THE INPUT: true; the input reads as it did. -/
def fnExactBillsPaidSpec : ChangeSpec := { name := "fnExactBillsPaid", fn := fun _ => fun
  | [d1, d2] => { results := [.lit (.bool true)], args := [d1, d2] }
  | _ => none }
def fnExactBillsPaidRow : OpenClaim := { program := "ytddfdomhapaefaa", sum := "193dbc5ef2a09323a699d16cb48cd3d8e5842a790743cbfa2981c60910a92c23", func := "loop.example/g00400/laws.FnExactBillsPaid", spec := "fnExactBillsPaid", apart := false }
def FnExactBillsPaidSaid : Prop := fnExactBillsPaidRow.holds Try.pinned (OpenSpec.ofChange fnExactBillsPaidSpec)

/-- ITS FALSE NEIGHBOUR: 'it returns false'. Refute it at one input. -/
def fnExactBillsPaidWrong : ChangeSpec := { name := "fnExactBillsPaid", fn := fun _ => fun
  | [d1, d2] => { results := [.lit (.bool false)], args := [d1, d2] }
  | _ => none }
def FnExactBillsPaidWrongFalsely : Prop := fnExactBillsPaidRow.holds Try.pinned (OpenSpec.ofChange fnExactBillsPaidWrong)

/-- 'laws.FnExactChanceAll': WHATEVER THE INPUT: true; the input reads as it did. -/
def fnExactChanceAllSpec : ChangeSpec := { name := "fnExactChanceAll", fn := fun _ => fun
  | [d1, d2] => { results := [.lit (.bool true)], args := [d1, d2] }
  | _ => none }
def fnExactChanceAllRow : OpenClaim := { program := "ytddfdomhapaefaa", sum := "193dbc5ef2a09323a699d16cb48cd3d8e5842a790743cbfa2981c60910a92c23", func := "loop.example/g00400/laws.FnExactChanceAll", spec := "fnExactChanceAll", named := ["math/bits.divideError", "math/bits.overflowError"], apart := false }
def FnExactChanceAllSaid : Prop := fnExactChanceAllRow.holds Try.pinned (OpenSpec.ofChange fnExactChanceAllSpec)

/-- ITS FALSE NEIGHBOUR: 'it returns false'. Refute it at one input. -/
def fnExactChanceAllWrong : ChangeSpec := { name := "fnExactChanceAll", fn := fun _ => fun
  | [d1, d2] => { results := [.lit (.bool false)], args := [d1, d2] }
  | _ => none }
def FnExactChanceAllWrongFalsely : Prop := fnExactChanceAllRow.holds Try.pinned (OpenSpec.ofChange fnExactChanceAllWrong)

/-- 'laws.FnExactSplitFew': WHATEVER THE INPUT: true; the input reads as it did. -/
def fnExactSplitFewSpec : ChangeSpec := { name := "fnExactSplitFew", fn := fun _ => fun
  | [d1, d2] => { results := [.lit (.bool true)], args := [d1, d2] }
  | _ => none }
def fnExactSplitFewRow : OpenClaim := { program := "ytddfdomhapaefaa", sum := "193dbc5ef2a09323a699d16cb48cd3d8e5842a790743cbfa2981c60910a92c23", func := "loop.example/g00400/laws.FnExactSplitFew", spec := "fnExactSplitFew", inPlace := ["internal/reflectlite.ValueOf", "internal/reflectlite.Swapper", "(internal/reflectlite.Value).Len"], unfollowed := true, recurses := true, apart := false }
def FnExactSplitFewSaid : Prop := fnExactSplitFewRow.holds Try.pinned (OpenSpec.ofChange fnExactSplitFewSpec)

/-- ITS FALSE NEIGHBOUR: 'it returns false'. Refute it at one input. -/
def fnExactSplitFewWrong : ChangeSpec := { name := "fnExactSplitFew", fn := fun _ => fun
  | [d1, d2] => { results := [.lit (.bool false)], args := [d1, d2] }
  | _ => none }
def FnExactSplitFewWrongFalsely : Prop := fnExactSplitFewRow.holds Try.pinned (OpenSpec.ofChange fnExactSplitFewWrong)

/-- 'laws.FnExactRouteFee': WHATEVER THE INPUT: true; the input reads as it did. -/
def fnExactRouteFeeSpec : ChangeSpec := { name := "fnExactRouteFee", fn := fun _ => fun
  | [d1, d2, d3] => { results := [.lit (.bool true)], args := [d1, d2, d3] }
  | _ => none }
def fnExactRouteFeeRow : OpenClaim := { program := "ytddfdomhapaefaa", sum := "193dbc5ef2a09323a699d16cb48cd3d8e5842a790743cbfa2981c60910a92c23", func := "loop.example/g00400/laws.FnExactRouteFee", spec := "fnExactRouteFee", named := ["math/bits.divideError", "math/bits.overflowError"], apart := false }
def FnExactRouteFeeSaid : Prop := fnExactRouteFeeRow.holds Try.pinned (OpenSpec.ofChange fnExactRouteFeeSpec)

/-- ITS FALSE NEIGHBOUR: 'it returns false'. Refute it at one input. -/
def fnExactRouteFeeWrong : ChangeSpec := { name := "fnExactRouteFee", fn := fun _ => fun
  | [d1, d2, d3] => { results := [.lit (.bool false)], args := [d1, d2, d3] }
  | _ => none }
def FnExactRouteFeeWrongFalsely : Prop := fnExactRouteFeeRow.holds Try.pinned (OpenSpec.ofChange fnExactRouteFeeWrong)

/-- 'laws.FnExactRouteAmts': WHATEVER THE INPUT: true; the input reads as it did. -/
def fnExactRouteAmtsSpec : ChangeSpec := { name := "fnExactRouteAmts", fn := fun _ => fun
  | [d1, d2, d3] => { results := [.lit (.bool true)], args := [d1, d2, d3] }
  | _ => none }
def fnExactRouteAmtsRow : OpenClaim := { program := "ytddfdomhapaefaa", sum := "193dbc5ef2a09323a699d16cb48cd3d8e5842a790743cbfa2981c60910a92c23", func := "loop.example/g00400/laws.FnExactRouteAmts", spec := "fnExactRouteAmts", named := ["math/bits.divideError", "math/bits.overflowError"], apart := false }
def FnExactRouteAmtsSaid : Prop := fnExactRouteAmtsRow.holds Try.pinned (OpenSpec.ofChange fnExactRouteAmtsSpec)

/-- ITS FALSE NEIGHBOUR: 'it returns false'. Refute it at one input. -/
def fnExactRouteAmtsWrong : ChangeSpec := { name := "fnExactRouteAmts", fn := fun _ => fun
  | [d1, d2, d3] => { results := [.lit (.bool false)], args := [d1, d2, d3] }
  | _ => none }
def FnExactRouteAmtsWrongFalsely : Prop := fnExactRouteAmtsRow.holds Try.pinned (OpenSpec.ofChange fnExactRouteAmtsWrong)

/-- 'laws.FnExactRouteBest': WHATEVER THE INPUT: true; the input reads as it did. -/
def fnExactRouteBestSpec : ChangeSpec := { name := "fnExactRouteBest", fn := fun _ => fun
  | [d1, d2, d3, d4, d5] => { results := [.lit (.bool true)], args := [d1, d2, d3, d4, d5] }
  | _ => none }
def fnExactRouteBestRow : OpenClaim := { program := "ytddfdomhapaefaa", sum := "193dbc5ef2a09323a699d16cb48cd3d8e5842a790743cbfa2981c60910a92c23", func := "loop.example/g00400/laws.FnExactRouteBest", spec := "fnExactRouteBest", recurses := true, named := ["math/bits.divideError", "math/bits.overflowError"], apart := false }
def FnExactRouteBestSaid : Prop := fnExactRouteBestRow.holds Try.pinned (OpenSpec.ofChange fnExactRouteBestSpec)

/-- ITS FALSE NEIGHBOUR: 'it returns false'. Refute it at one input. -/
def fnExactRouteBestWrong : ChangeSpec := { name := "fnExactRouteBest", fn := fun _ => fun
  | [d1, d2, d3, d4, d5] => { results := [.lit (.bool false)], args := [d1, d2, d3, d4, d5] }
  | _ => none }
def FnExactRouteBestWrongFalsely : Prop := fnExactRouteBestRow.holds Try.pinned (OpenSpec.ofChange fnExactRouteBestWrong)

/- THE SECOND FORM. 'bulk': how many values and letters a reading holds, each counted each time it is reached (what is shared counts as often as it is met; a slice's spare places count too). A statement '..UptoSaid' is the law's where the arguments, and the package variables that the reading takes, are together of bulk at most 1048576: NARROWER than '..Said'. Prove '..Said' where nothing that the law and all that it calls make is longer than what came in: it says more and counts as full. Else prove '..UptoSaid'. A law counts once. -/
mutual
def uptoBulk {H : Type} : DataW H → Nat
  | .lit (.string bytes) => bytes.length + 1
  | .lit _ => 1
  | .nil => 1
  | .ptr d => uptoBulk d + 1
  | .slice elems spare => uptoBulkAll elems + uptoBulkAll spare + 1
  | .agg parts => uptoBulkAll parts + 1
  | .iface _ d => uptoBulk d + 1
  | .map entries => uptoBulkEntries entries + 1
  | .held _ => 1
def uptoBulkAll {H : Type} : List (DataW H) → Nat
  | [] => 0
  | d :: r => uptoBulk d + uptoBulkAll r
def uptoBulkEntries {H : Type} : List (Lit × DataW H) → Nat
  | [] => 0
  | x :: r => uptoBulkEntry x + uptoBulkEntries r
def uptoBulkEntry {H : Type} : Lit × DataW H → Nat
  | (.string bytes, d) => bytes.length + uptoBulk d + 1
  | (_, d) => uptoBulk d + 1
 end
def uptoSmall : (H : Type) → List (DataW H) → Bool := fun _ ds => decide (uptoBulkAll ds ≤ 1048576)
def OpenSpec.upto (s : _root_.Go.ChangeSpec) : _root_.Go.OpenSpec := { _root_.Go.OpenSpec.ofChange s with cond := some uptoSmall }

/-- 'laws.FnExactStuck', WHERE WHAT IT READS IS OF BULK AT MOST 1048576: true; the input reads as it did. -/
def fnExactStuckUptoRow : OpenClaim := { program := "ytddfdomhapaefaa", sum := "193dbc5ef2a09323a699d16cb48cd3d8e5842a790743cbfa2981c60910a92c23", func := "loop.example/g00400/laws.FnExactStuck", spec := "fnExactStuck", apart := false, narrowed := true }
def FnExactStuckUptoSaid : Prop := fnExactStuckUptoRow.holds Try.pinned (OpenSpec.upto fnExactStuckSpec)

/-- 'laws.FnExactBillDue', WHERE WHAT IT READS IS OF BULK AT MOST 1048576: true; the input reads as it did. -/
def fnExactBillDueUptoRow : OpenClaim := { program := "ytddfdomhapaefaa", sum := "193dbc5ef2a09323a699d16cb48cd3d8e5842a790743cbfa2981c60910a92c23", func := "loop.example/g00400/laws.FnExactBillDue", spec := "fnExactBillDue", apart := false, narrowed := true }
def FnExactBillDueUptoSaid : Prop := fnExactBillDueUptoRow.holds Try.pinned (OpenSpec.upto fnExactBillDueSpec)

/-- 'laws.FnExactRoadsOk', WHERE WHAT IT READS IS OF BULK AT MOST 1048576: true; the input reads as it did. -/
def fnExactRoadsOkUptoRow : OpenClaim := { program := "ytddfdomhapaefaa", sum := "193dbc5ef2a09323a699d16cb48cd3d8e5842a790743cbfa2981c60910a92c23", func := "loop.example/g00400/laws.FnExactRoadsOk", spec := "fnExactRoadsOk", apart := false, narrowed := true }
def FnExactRoadsOkUptoSaid : Prop := fnExactRoadsOkUptoRow.holds Try.pinned (OpenSpec.upto fnExactRoadsOkSpec)

/-- 'laws.FnExactSplit', WHERE WHAT IT READS IS OF BULK AT MOST 1048576: true; the input reads as it did. -/
def fnExactSplitUptoRow : OpenClaim := { program := "ytddfdomhapaefaa", sum := "193dbc5ef2a09323a699d16cb48cd3d8e5842a790743cbfa2981c60910a92c23", func := "loop.example/g00400/laws.FnExactSplit", spec := "fnExactSplit", apart := false, narrowed := true }
def FnExactSplitUptoSaid : Prop := fnExactSplitUptoRow.holds Try.pinned (OpenSpec.upto fnExactSplitSpec)

/-- 'laws.FnExactRouteOk', WHERE WHAT IT READS IS OF BULK AT MOST 1048576: true; the input reads as it did. -/
def fnExactRouteOkUptoRow : OpenClaim := { program := "ytddfdomhapaefaa", sum := "193dbc5ef2a09323a699d16cb48cd3d8e5842a790743cbfa2981c60910a92c23", func := "loop.example/g00400/laws.FnExactRouteOk", spec := "fnExactRouteOk", apart := false, narrowed := true }
def FnExactRouteOkUptoSaid : Prop := fnExactRouteOkUptoRow.holds Try.pinned (OpenSpec.upto fnExactRouteOkSpec)

/-- 'laws.FnExactChance', WHERE WHAT IT READS IS OF BULK AT MOST 1048576: true; the input reads as it did. -/
def fnExactChanceUptoRow : OpenClaim := { program := "ytddfdomhapaefaa", sum := "193dbc5ef2a09323a699d16cb48cd3d8e5842a790743cbfa2981c60910a92c23", func := "loop.example/g00400/laws.FnExactChance", spec := "fnExactChance", named := ["math/bits.divideError", "math/bits.overflowError"], apart := false, narrowed := true }
def FnExactChanceUptoSaid : Prop := fnExactChanceUptoRow.holds Try.pinned (OpenSpec.upto fnExactChanceSpec)

/-- 'laws.FnExactBillsPaid', WHERE WHAT IT READS IS OF BULK AT MOST 1048576: true; the input reads as it did. -/
def fnExactBillsPaidUptoRow : OpenClaim := { program := "ytddfdomhapaefaa", sum := "193dbc5ef2a09323a699d16cb48cd3d8e5842a790743cbfa2981c60910a92c23", func := "loop.example/g00400/laws.FnExactBillsPaid", spec := "fnExactBillsPaid", apart := false, narrowed := true }
def FnExactBillsPaidUptoSaid : Prop := fnExactBillsPaidUptoRow.holds Try.pinned (OpenSpec.upto fnExactBillsPaidSpec)

/-- 'laws.FnExactChanceAll', WHERE WHAT IT READS IS OF BULK AT MOST 1048576: true; the input reads as it did. -/
def fnExactChanceAllUptoRow : OpenClaim := { program := "ytddfdomhapaefaa", sum := "193dbc5ef2a09323a699d16cb48cd3d8e5842a790743cbfa2981c60910a92c23", func := "loop.example/g00400/laws.FnExactChanceAll", spec := "fnExactChanceAll", named := ["math/bits.divideError", "math/bits.overflowError"], apart := false, narrowed := true }
def FnExactChanceAllUptoSaid : Prop := fnExactChanceAllUptoRow.holds Try.pinned (OpenSpec.upto fnExactChanceAllSpec)

/-- 'laws.FnExactSplitFew', WHERE WHAT IT READS IS OF BULK AT MOST 1048576: true; the input reads as it did. -/
def fnExactSplitFewUptoRow : OpenClaim := { program := "ytddfdomhapaefaa", sum := "193dbc5ef2a09323a699d16cb48cd3d8e5842a790743cbfa2981c60910a92c23", func := "loop.example/g00400/laws.FnExactSplitFew", spec := "fnExactSplitFew", inPlace := ["internal/reflectlite.ValueOf", "internal/reflectlite.Swapper", "(internal/reflectlite.Value).Len"], unfollowed := true, recurses := true, apart := false, narrowed := true }
def FnExactSplitFewUptoSaid : Prop := fnExactSplitFewUptoRow.holds Try.pinned (OpenSpec.upto fnExactSplitFewSpec)

/-- 'laws.FnExactRouteFee', WHERE WHAT IT READS IS OF BULK AT MOST 1048576: true; the input reads as it did. -/
def fnExactRouteFeeUptoRow : OpenClaim := { program := "ytddfdomhapaefaa", sum := "193dbc5ef2a09323a699d16cb48cd3d8e5842a790743cbfa2981c60910a92c23", func := "loop.example/g00400/laws.FnExactRouteFee", spec := "fnExactRouteFee", named := ["math/bits.divideError", "math/bits.overflowError"], apart := false, narrowed := true }
def FnExactRouteFeeUptoSaid : Prop := fnExactRouteFeeUptoRow.holds Try.pinned (OpenSpec.upto fnExactRouteFeeSpec)

/-- 'laws.FnExactRouteAmts', WHERE WHAT IT READS IS OF BULK AT MOST 1048576: true; the input reads as it did. -/
def fnExactRouteAmtsUptoRow : OpenClaim := { program := "ytddfdomhapaefaa", sum := "193dbc5ef2a09323a699d16cb48cd3d8e5842a790743cbfa2981c60910a92c23", func := "loop.example/g00400/laws.FnExactRouteAmts", spec := "fnExactRouteAmts", named := ["math/bits.divideError", "math/bits.overflowError"], apart := false, narrowed := true }
def FnExactRouteAmtsUptoSaid : Prop := fnExactRouteAmtsUptoRow.holds Try.pinned (OpenSpec.upto fnExactRouteAmtsSpec)

/-- 'laws.FnExactRouteBest', WHERE WHAT IT READS IS OF BULK AT MOST 1048576: true; the input reads as it did. -/
def fnExactRouteBestUptoRow : OpenClaim := { program := "ytddfdomhapaefaa", sum := "193dbc5ef2a09323a699d16cb48cd3d8e5842a790743cbfa2981c60910a92c23", func := "loop.example/g00400/laws.FnExactRouteBest", spec := "fnExactRouteBest", recurses := true, named := ["math/bits.divideError", "math/bits.overflowError"], apart := false, narrowed := true }
def FnExactRouteBestUptoSaid : Prop := fnExactRouteBestUptoRow.holds Try.pinned (OpenSpec.upto fnExactRouteBestSpec)

end Rows
end Go.Proofs.Ytddfdomhapaefaa
