/- The walks and the laws they lean on. -/
import Derived.Test.YtahefgkdbecemaaGreatQ19
namespace Go.Proofs.YtahefgkdbecemaaGreat
open Go.RowKit
set_option linter.unusedVariables false
set_option linter.unusedSimpArgs false
set_option maxRecDepth 100000
set_option maxHeartbeats 12800000
theorem A2O (u:Value) (ps:List Po) (w:World) (V:VN F8 w w u ps):Calls Tryz.prog 225 #[.agg #[I0, .slice none 0 0],u] w fun e w'=>(∃ F v',e = .returned (.tuple #[.agg #[.int .i64 (DQ ps).1.last,v'], .int .i64 (DQ ps).2])∧As F w' w v' (DQ ps).1)∧Below w w w':=by
 have A4d:=trivial;exact bI
theorem A1s (u:Value) (ps:List Po) (w:World) (V:VN F8 w w u ps):Calls Tryz.prog 219 #[.agg #[I0, .slice none 0 0],u] w fun e w'=>(∃ F v',e = .returned (.tuple #[.agg #[.int .i64 (DQ ps).1.last,v'], .int .i64 (DQ ps).2])∧As F w' w v' (DQ ps).1)∧Below w w w':=by
 exact bI
end Go.Proofs.YtahefgkdbecemaaGreat
