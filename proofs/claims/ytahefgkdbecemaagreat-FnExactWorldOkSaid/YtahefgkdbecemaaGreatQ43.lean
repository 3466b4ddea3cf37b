/- The walks and the laws they lean on. -/
import Derived.Test.YtahefgkdbecemaaGreatQ26
import Derived.Test.YtahefgkdbecemaaGreatQ41
namespace Go.Proofs.YtahefgkdbecemaaGreat
open Go.RowKit
set_option linter.unusedVariables false
set_option linter.unusedSimpArgs false
set_option maxRecDepth 100000
set_option maxHeartbeats 12800000
theorem Dn.pre {F:List Nat} {g B:Nat} {b:Bk} {e:Ev} {w w1 w2:World} (h:Wf g F F w w1) (d:Dn F g B b e w1 w2):Dn F g B b e w w2:=by
 obtain ⟨F',x',b',ls',h1,h2,h3⟩:=d;exact ⟨F',x',b',ls',h1,h.trans h2,h3⟩
theorem A2E (x y z:Value) (b:Bk) (kd ky ch tt am fe:Int) (ys:Bool) (w:World) (V:BkV w w x y z b) (hb:Bok b) (hg:Ah kd ky ch tt am fe ys=true) (hne0:¬ b.next=1125899906842624) (hks:kd=1∨kd=2∨kd=3):Calls Tryz.prog 74 #[.agg #[b.tick,b.next,b.wallet,x,y,z], .agg #[kd,ky,ch,tt,am,fe,ys]] w fun e w'=>Bn w w' e b ⟨kd,ky,ch,tt,am,fe,ys⟩:=by
 have A44:=trivial;exact Rm
end Go.Proofs.YtahefgkdbecemaaGreat
