/- The walks and the laws they lean on. -/
import Derived.Test.YtahefgkdbecemaaGreatQ11
import Derived.Test.YtahefgkdbecemaaGreatQ12
namespace Go.Proofs.YtahefgkdbecemaaGreat
open Go.RowKit
set_option linter.unusedVariables false
set_option linter.unusedSimpArgs false
set_option maxRecDepth 100000
set_option maxHeartbeats 12800000
theorem wJ (x y z x2 y2 z2:Value) (a b:Bk) (w:World) (V:BkV w w x y z a) (U:BkV w w x2 y2 z2 b):Calls Tryz.prog 127 #[.agg #[a.tick,a.next,a.wallet,x,y,z], .agg #[b.tick,b.next,b.wallet,x2,y2,z2]] w fun e w'=>(∃ r,e = .returned (.bool r)∧(r=true↔Ak a=true∧Ak b=true∧a=b))∧Below w w w':=by
 have A3f:=trivial;exact Z4
theorem A0M (x y z x2 y2 z2:Value) (a b:Bk) (w:World) (V:BkV w w x y z a) (U:BkV w w x2 y2 z2 b):Calls Tryz.prog 66 #[.agg #[a.tick,a.next,a.wallet,x,y,z], .agg #[b.tick,b.next,b.wallet,x2,y2,z2]] w fun e w'=>(∃ r,e = .returned (.bool r)∧(r=true↔Ak a=true∧Ak b=true∧a=b))∧Below w w w':=by
 exact Z4
end Go.Proofs.YtahefgkdbecemaaGreat
