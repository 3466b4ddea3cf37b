/- The walks and the laws they lean on. -/
import Derived.Test.YtahefgkdbecemaaGreatQ17
namespace Go.Proofs.YtahefgkdbecemaaGreat
open Go.RowKit
set_option linter.unusedVariables false
set_option linter.unusedSimpArgs false
set_option maxRecDepth 100000
set_option maxHeartbeats 12800000
theorem xf (l:Lg) (p:Po) (v u:Value) (w:World) (VL:LgV w w v l) (VP:BE w w u p.lines) (hid:AE p.id):Calls Tryz.prog 77 #[.agg #[l.last,v], .agg #[p.id,u]] w fun e w'=>(∃ F v',e = .returned (.tuple #[.agg #[.int .i64 (BV l p).2.last,v'], .int .i64 (BV l p).1])∧As F w' w v' (BV l p).2)∧Below w w w':=by
 exact aZ
end Go.Proofs.YtahefgkdbecemaaGreat
