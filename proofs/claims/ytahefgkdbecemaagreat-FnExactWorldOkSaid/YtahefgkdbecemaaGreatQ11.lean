/- The walks and the laws they lean on. -/
import Derived.Test.YtahefgkdbecemaaGreatQ10
namespace Go.Proofs.YtahefgkdbecemaaGreat
open Go.RowKit
set_option linter.unusedVariables false
set_option linter.unusedSimpArgs false
set_option maxRecDepth 100000
set_option maxHeartbeats 12800000
theorem Mx (x y z:Value) (b:Bk) (w:World) (V:BkV w w x y z b):Calls Tryz.prog 136 #[.agg #[b.tick,b.next,b.wallet,x,y,z]] w fun e w'=>e = .returned (Ak b)∧Below w w w':=by
 have A3c:=trivial;exact Di
end Go.Proofs.YtahefgkdbecemaaGreat
