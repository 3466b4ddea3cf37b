/- The walks and the laws they lean on. -/
import Derived.Test.YtahefgkdbecemaaGreatQ26
import Derived.Test.YtahefgkdbecemaaGreatQ41
namespace Go.Proofs.YtahefgkdbecemaaGreat
open Go.RowKit
set_option linter.unusedVariables false
set_option linter.unusedSimpArgs false
set_option maxRecDepth 100000
set_option maxHeartbeats 12800000
theorem xv (x y z:Value) (b:Bk) (kd ky ch tt am fe:Int) (ys:Bool) (w:World) (V:BkV w w x y z b) (hb:Bok b) (hg:Ah kd ky ch tt am fe ys=true) (hne0:¬ b.next=1125899906842624) (hks:kd=5∨kd=6∨kd=7∨kd=8∨kd=9∨kd=10∨kd=11):Calls Tryz.prog 74 #[.agg #[b.tick,b.next,b.wallet,x,y,z], .agg #[kd,ky,ch,tt,am,fe,ys]] w fun e w'=>Bn w w' e b ⟨kd,ky,ch,tt,am,fe,ys⟩:=by
 exact Rm
end Go.Proofs.YtahefgkdbecemaaGreat
