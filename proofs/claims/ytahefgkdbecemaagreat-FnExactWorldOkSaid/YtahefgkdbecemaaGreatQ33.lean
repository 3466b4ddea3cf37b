/- The walks and the laws they lean on. -/
import Derived.Test.YtahefgkdbecemaaGreatQ12
import Derived.Test.YtahefgkdbecemaaGreatQ19
namespace Go.Proofs.YtahefgkdbecemaaGreat
open Go.RowKit
set_option linter.unusedVariables false
set_option linter.unusedSimpArgs false
set_option maxRecDepth 100000
set_option maxHeartbeats 12800000
theorem A0T (c d x y z l p q:Value) (h:Hb) (w:World) (V:HbV w w c d x y z l p q h):Calls Tryz.prog 56 #[.agg #[c,d,h.log.next,h.log.epoch,h.book.tick,h.book.next,h.book.wallet,x,y,z,h.ledger.last,l,p,q]] w fun e w'=>(∃ r,e = .returned (.bool r)∧(r=true↔h=Hb.zero))∧Below w w w':=by
 obtain ⟨ac,nc,cc,rfl,-,-,-,-,-⟩:=V.log.disk.cells.at_;have A4u:=trivial;exact cB
end Go.Proofs.YtahefgkdbecemaaGreat
