/- The walks and the laws they lean on. -/
import Derived.Test.YtahefgkdbecemaaGreatQ10
namespace Go.Proofs.YtahefgkdbecemaaGreat
open Go.RowKit
set_option linter.unusedVariables false
set_option linter.unusedSimpArgs false
set_option maxRecDepth 100000
set_option maxHeartbeats 12800000
theorem XT (x y z x2 y2 z2:Value) (a b:Bk) (w:World) (V:BkV w w x y z a) (U:BkV w w x2 y2 z2 b):Calls Tryz.prog 70 #[.agg #[a.tick,a.next,a.wallet,x,y,z], .agg #[b.tick,b.next,b.wallet,x2,y2,z2]] w fun e w'=>(∃ r,e = .returned (.bool r)∧(r=true↔a=b))∧Below w w w':=by
 obtain ⟨t1,u1,v1,cs1,hs1,zs1⟩:=a;obtain ⟨t2,u2,v2,cs2,hs2,zs2⟩:=b;generalize hP:((⟨t1,u1,v1,cs1,hs1,zs1⟩:Bk)=⟨t2,u2,v2,cs2,hs2,zs2⟩)=P;have A3e:=trivial;exact Z3
end Go.Proofs.YtahefgkdbecemaaGreat
