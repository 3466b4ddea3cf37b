/-
  No cell of these rows narrows 'for every input' (looked for: loops, veiled, ifaces, maps, wideKeys, modest, calm, conditions, laid).
  DERIVED. THE GIVEN ROWS OF THIS SEAT. 6 by the template 'for every input the law returns true; each argument reads behind the call as it read before'; 0 by the template 'total and deterministic' (their statements: YtahefgkdbecemaaGreatTotals.lean).
  GIVEN WITH THE SEED: the statements are not yours to turn. If you find one false, say at which input.
  Laid BY PROGRAM, IN A SANDBOX (cutbox-rows.mjs): the forced cells as the released guide's own fill.sh prints them over the translation 1c315cc19ca03e32… (all of the seat's roots in one cut). By AI agents, Wed Nov 11 2026. No macro, syntax, notation, axiom, sorry.
-/
import Derived.Test.YtahefgkdbecemaaGreatChecked
import GoSem.Claim
import GoSem.ClaimJoined
import GoSem.ClaimMapViews
import Derived.JoinedTies
import Derived.KernelRfl
namespace Go.Proofs.YtahefgkdbecemaaGreat
/- THE CELL 'sum', in the pinned program and in every row, IS THE sha256 OF THE DUMP (.gsa) THAT YtahefgkdbecemaaGreatProg.lean LOADS. Nothing in Lean hashes anything: it is a label: what it is worth is what the hold of that sum in a sandbox is worth. -/
noncomputable def Tryz.pinned : Pinned := { name := "ytahefgkdbecemaagreat", sum := "1c315cc19ca03e324846ddda93f361511749b424ebb70c10018b8cf4650e5b4e", checked := Tryz.checked }
namespace Rows
def none {H : Type} : Left H := { results := [], args := [] }

/-- 'laws.FnExactWorldOk': WHATEVER THE INPUT: true; the input reads as it did. -/
def fnExactWorldOkSpec : ChangeSpec := { name := "fnExactWorldOk", fn := fun _ => fun
  | [d] => { results := [.lit (.bool true)], args := [d] }
  | _ => none }
def fnExactWorldOkRow : OpenClaim := { program := "ytahefgkdbecemaagreat", sum := "1c315cc19ca03e324846ddda93f361511749b424ebb70c10018b8cf4650e5b4e", func := "loop.example/g00400/laws.FnExactWorldOk", spec := "fnExactWorldOk", unfollowed := true, recurses := true, named := ["math/bits.divideError", "math/bits.overflowError"], apart := false }
def FnExactWorldOkSaid : Prop := fnExactWorldOkRow.holds Tryz.pinned (OpenSpec.ofChange fnExactWorldOkSpec)

/-- ITS FALSE NEIGHBOUR: 'it returns false'. Refute it at one input. -/
def fnExactWorldOkWrong : ChangeSpec := { name := "fnExactWorldOk", fn := fun _ => fun
  | [d] => { results := [.lit (.bool false)], args := [d] }
  | _ => none }
def FnExactWorldOkWrongFalsely : Prop := fnExactWorldOkRow.holds Tryz.pinned (OpenSpec.ofChange fnExactWorldOkWrong)

/-- 'laws.FnExactEarned': WHATEVER THE INPUT: true; the input reads as it did. -/
def fnExactEarnedSpec : ChangeSpec := { name := "fnExactEarned", fn := fun _ => fun
  | [d] => { results := [.lit (.bool true)], args := [d] }
  | _ => none }
def fnExactEarnedRow : OpenClaim := { program := "ytahefgkdbecemaagreat", sum := "1c315cc19ca03e324846ddda93f361511749b424ebb70c10018b8cf4650e5b4e", func := "loop.example/g00400/laws.FnExactEarned", spec := "fnExactEarned", unfollowed := true, recurses := true, named := ["math/bits.divideError", "math/bits.overflowError"], apart := false }
def FnExactEarnedSaid : Prop := fnExactEarnedRow.holds Tryz.pinned (OpenSpec.ofChange fnExactEarnedSpec)

/-- ITS FALSE NEIGHBOUR: 'it returns false'. Refute it at one input. -/
def fnExactEarnedWrong : ChangeSpec := { name := "fnExactEarned", fn := fun _ => fun
  | [d] => { results := [.lit (.bool false)], args := [d] }
  | _ => none }
def FnExactEarnedWrongFalsely : Prop := fnExactEarnedRow.holds Tryz.pinned (OpenSpec.ofChange fnExactEarnedWrong)

/-- 'laws.FnExactLegal': WHATEVER THE INPUT: true; the input reads as it did. -/
def fnExactLegalSpec : ChangeSpec := { name := "fnExactLegal", fn := fun _ => fun
  | [d] => { results := [.lit (.bool true)], args := [d] }
  | _ => none }
def fnExactLegalRow : OpenClaim := { program := "ytahefgkdbecemaagreat", sum := "1c315cc19ca03e324846ddda93f361511749b424ebb70c10018b8cf4650e5b4e", func := "loop.example/g00400/laws.FnExactLegal", spec := "fnExactLegal", unfollowed := true, recurses := true, named := ["math/bits.divideError", "math/bits.overflowError"], apart := false }
def FnExactLegalSaid : Prop := fnExactLegalRow.holds Tryz.pinned (OpenSpec.ofChange fnExactLegalSpec)

/-- ITS FALSE NEIGHBOUR: 'it returns false'. Refute it at one input. -/
def fnExactLegalWrong : ChangeSpec := { name := "fnExactLegal", fn := fun _ => fun
  | [d] => { results := [.lit (.bool false)], args := [d] }
  | _ => none }
def FnExactLegalWrongFalsely : Prop := fnExactLegalRow.holds Tryz.pinned (OpenSpec.ofChange fnExactLegalWrong)

/-- 'laws.FnExactHubTake': WHATEVER THE INPUT: true; the input reads as it did. -/
def fnExactHubTakeSpec : ChangeSpec := { name := "fnExactHubTake", fn := fun _ => fun
  | [d1, d2] => { results := [.lit (.bool true)], args := [d1, d2] }
  | _ => none }
def fnExactHubTakeRow : OpenClaim := { program := "ytahefgkdbecemaagreat", sum := "1c315cc19ca03e324846ddda93f361511749b424ebb70c10018b8cf4650e5b4e", func := "loop.example/g00400/laws.FnExactHubTake", spec := "fnExactHubTake", unfollowed := true, recurses := true, named := ["math/bits.divideError", "math/bits.overflowError"], apart := false }
def FnExactHubTakeSaid : Prop := fnExactHubTakeRow.holds Tryz.pinned (OpenSpec.ofChange fnExactHubTakeSpec)

/-- ITS FALSE NEIGHBOUR: 'it returns false'. Refute it at one input. -/
def fnExactHubTakeWrong : ChangeSpec := { name := "fnExactHubTake", fn := fun _ => fun
  | [d1, d2] => { results := [.lit (.bool false)], args := [d1, d2] }
  | _ => none }
def FnExactHubTakeWrongFalsely : Prop := fnExactHubTakeRow.holds Tryz.pinned (OpenSpec.ofChange fnExactHubTakeWrong)

/-- 'laws.FnExactDo': WHATEVER THE INPUT: true; the input reads as it did. -/
def fnExactDoSpec : ChangeSpec := { name := "fnExactDo", fn := fun _ => fun
  | [d1, d2] => { results := [.lit (.bool true)], args := [d1, d2] }
  | _ => none }
def fnExactDoRow : OpenClaim := { program := "ytahefgkdbecemaagreat", sum := "1c315cc19ca03e324846ddda93f361511749b424ebb70c10018b8cf4650e5b4e", func := "loop.example/g00400/laws.FnExactDo", spec := "fnExactDo", unfollowed := true, recurses := true, named := ["math/bits.divideError", "math/bits.overflowError"], apart := false }
def FnExactDoSaid : Prop := fnExactDoRow.holds Tryz.pinned (OpenSpec.ofChange fnExactDoSpec)

/-- ITS FALSE NEIGHBOUR: 'it returns false'. Refute it at one input. -/
def fnExactDoWrong : ChangeSpec := { name := "fnExactDo", fn := fun _ => fun
  | [d1, d2] => { results := [.lit (.bool false)], args := [d1, d2] }
  | _ => none }
def FnExactDoWrongFalsely : Prop := fnExactDoRow.holds Tryz.pinned (OpenSpec.ofChange fnExactDoWrong)

/-- 'laws.FnExactPlay': WHATEVER THE INPUT: true; the input reads as it did. -/
def fnExactPlaySpec : ChangeSpec := { name := "fnExactPlay", fn := fun _ => fun
  | [d1, d2] => { results := [.lit (.bool true)], args := [d1, d2] }
  | _ => none }
def fnExactPlayRow : OpenClaim := { program := "ytahefgkdbecemaagreat", sum := "1c315cc19ca03e324846ddda93f361511749b424ebb70c10018b8cf4650e5b4e", func := "loop.example/g00400/laws.FnExactPlay", spec := "fnExactPlay", unfollowed := true, recurses := true, named := ["math/bits.divideError", "math/bits.overflowError"], apart := false }
def FnExactPlaySaid : Prop := fnExactPlayRow.holds Tryz.pinned (OpenSpec.ofChange fnExactPlaySpec)

/-- ITS FALSE NEIGHBOUR: 'it returns false'. Refute it at one input. -/
def fnExactPlayWrong : ChangeSpec := { name := "fnExactPlay", fn := fun _ => fun
  | [d1, d2] => { results := [.lit (.bool false)], args := [d1, d2] }
  | _ => none }
def FnExactPlayWrongFalsely : Prop := fnExactPlayRow.holds Tryz.pinned (OpenSpec.ofChange fnExactPlayWrong)

/- THE SECOND FORM. 'bulk': how many values and letters a reading holds, each counted each time it is reached (what is shared counts as often as it is met; a slice's spare places count too). A statement '..UptoSaid' is the law's where the arguments, and the package variables that the reading takes, are together of bulk at most 1048576: NARROWER than '..Said'. Prove '..Said' where nothing that the law and all that it calls make is longer than what came in: it says more and counts as full. Else prove '..UptoSaid'. A law counts once. -/
mutual
def uptoBulk {H : Type} : DataW H → Nat
  | .lit (.string bytes) => bytes.length + 1
  | .lit _ => 1
  | .nil => 1
  | .ptr d => uptoBulk d + 1
  | .slice elems spare => uptoBulkAll elems + uptoBulkAll spare + 1
  | .agg parts => uptoBulkAll parts + 1
  | .iface _ d => uptoBulk d + 1
  | .map entries => uptoBulkEntries entries + 1
  | .held _ => 1
def uptoBulkAll {H : Type} : List (DataW H) → Nat
  | [] => 0
  | d :: r => uptoBulk d + uptoBulkAll r
def uptoBulkEntries {H : Type} : List (Lit × DataW H) → Nat
  | [] => 0
  | x :: r => uptoBulkEntry x + uptoBulkEntries r
def uptoBulkEntry {H : Type} : Lit × DataW H → Nat
  | (.string bytes, d) => bytes.length + uptoBulk d + 1
  | (_, d) => uptoBulk d + 1
 end
def uptoSmall : (H : Type) → List (DataW H) → Bool := fun _ ds => decide (uptoBulkAll ds ≤ 1048576)
def OpenSpec.upto (s : _root_.Go.ChangeSpec) : _root_.Go.OpenSpec := { _root_.Go.OpenSpec.ofChange s with cond := some uptoSmall }

/-- 'laws.FnExactWorldOk', WHERE WHAT IT READS IS OF BULK AT MOST 1048576: true; the input reads as it did. -/
def fnExactWorldOkUptoRow : OpenClaim := { program := "ytahefgkdbecemaagreat", sum := "1c315cc19ca03e324846ddda93f361511749b424ebb70c10018b8cf4650e5b4e", func := "loop.example/g00400/laws.FnExactWorldOk", spec := "fnExactWorldOk", unfollowed := true, recurses := true, named := ["math/bits.divideError", "math/bits.overflowError"], apart := false, narrowed := true }
def FnExactWorldOkUptoSaid : Prop := fnExactWorldOkUptoRow.holds Tryz.pinned (OpenSpec.upto fnExactWorldOkSpec)

/-- 'laws.FnExactEarned', WHERE WHAT IT READS IS OF BULK AT MOST 1048576: true; the input reads as it did. -/
def fnExactEarnedUptoRow : OpenClaim := { program := "ytahefgkdbecemaagreat", sum := "1c315cc19ca03e324846ddda93f361511749b424ebb70c10018b8cf4650e5b4e", func := "loop.example/g00400/laws.FnExactEarned", spec := "fnExactEarned", unfollowed := true, recurses := true, named := ["math/bits.divideError", "math/bits.overflowError"], apart := false, narrowed := true }
def FnExactEarnedUptoSaid : Prop := fnExactEarnedUptoRow.holds Tryz.pinned (OpenSpec.upto fnExactEarnedSpec)

/-- 'laws.FnExactLegal', WHERE WHAT IT READS IS OF BULK AT MOST 1048576: true; the input reads as it did. -/
def fnExactLegalUptoRow : OpenClaim := { program := "ytahefgkdbecemaagreat", sum := "1c315cc19ca03e324846ddda93f361511749b424ebb70c10018b8cf4650e5b4e", func := "loop.example/g00400/laws.FnExactLegal", spec := "fnExactLegal", unfollowed := true, recurses := true, named := ["math/bits.divideError", "math/bits.overflowError"], apart := false, narrowed := true }
def FnExactLegalUptoSaid : Prop := fnExactLegalUptoRow.holds Tryz.pinned (OpenSpec.upto fnExactLegalSpec)

/-- 'laws.FnExactHubTake', WHERE WHAT IT READS IS OF BULK AT MOST 1048576: true; the input reads as it did. -/
def fnExactHubTakeUptoRow : OpenClaim := { program := "ytahefgkdbecemaagreat", sum := "1c315cc19ca03e324846ddda93f361511749b424ebb70c10018b8cf4650e5b4e", func := "loop.example/g00400/laws.FnExactHubTake", spec := "fnExactHubTake", unfollowed := true, recurses := true, named := ["math/bits.divideError", "math/bits.overflowError"], apart := false, narrowed := true }
def FnExactHubTakeUptoSaid : Prop := fnExactHubTakeUptoRow.holds Tryz.pinned (OpenSpec.upto fnExactHubTakeSpec)

/-- 'laws.FnExactDo', WHERE WHAT IT READS IS OF BULK AT MOST 1048576: true; the input reads as it did. -/
def fnExactDoUptoRow : OpenClaim := { program := "ytahefgkdbecemaagreat", sum := "1c315cc19ca03e324846ddda93f361511749b424ebb70c10018b8cf4650e5b4e", func := "loop.example/g00400/laws.FnExactDo", spec := "fnExactDo", unfollowed := true, recurses := true, named := ["math/bits.divideError", "math/bits.overflowError"], apart := false, narrowed := true }
def FnExactDoUptoSaid : Prop := fnExactDoUptoRow.holds Tryz.pinned (OpenSpec.upto fnExactDoSpec)

/-- 'laws.FnExactPlay', WHERE WHAT IT READS IS OF BULK AT MOST 1048576: true; the input reads as it did. -/
def fnExactPlayUptoRow : OpenClaim := { program := "ytahefgkdbecemaagreat", sum := "1c315cc19ca03e324846ddda93f361511749b424ebb70c10018b8cf4650e5b4e", func := "loop.example/g00400/laws.FnExactPlay", spec := "fnExactPlay", unfollowed := true, recurses := true, named := ["math/bits.divideError", "math/bits.overflowError"], apart := false, narrowed := true }
def FnExactPlayUptoSaid : Prop := fnExactPlayUptoRow.holds Tryz.pinned (OpenSpec.upto fnExactPlaySpec)

end Rows
end Go.Proofs.YtahefgkdbecemaaGreat
