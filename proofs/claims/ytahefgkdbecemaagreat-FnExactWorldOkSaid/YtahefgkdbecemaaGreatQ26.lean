/- The walks and the laws they lean on. -/
import Derived.Test.YtahefgkdbecemaaGreatQ23
import Derived.Test.YtahefgkdbecemaaGreatQ11
namespace Go.Proofs.YtahefgkdbecemaaGreat
open Go.RowKit
set_option linter.unusedVariables false
set_option linter.unusedSimpArgs false
set_option maxRecDepth 100000
set_option maxHeartbeats 12800000
theorem tV (x y z:Value) (b:Bk) (kd ky ch tt am fe:Int) (ys:Bool) (w:World) (V:BkV w w x y z b) (hb:Bok b) (hg:Ah kd ky ch tt am fe ys=false):Calls Tryz.prog 81 #[.agg #[b.tick,b.next,b.wallet,x,y,z], .agg #[kd,ky,ch,tt,am,fe,ys]] w fun e w'=>Bn w w' e b ⟨kd,ky,ch,tt,am,fe,ys⟩:=by
 have A4e:=trivial;exact Rf
theorem vi (x y z:Value) (b:Bk) (kd ky ch tt am fe:Int) (ys:Bool) (w:World) (V:BkV w w x y z b) (hb:Bok b) (hg:Ah kd ky ch tt am fe ys=true) (ho:Af b ⟨kd,ky,ch,tt,am,fe,ys⟩=true):Calls Tryz.prog 81 #[.agg #[b.tick,b.next,b.wallet,x,y,z], .agg #[kd,ky,ch,tt,am,fe,ys]] w fun e w'=>Bn w w' e b ⟨kd,ky,ch,tt,am,fe,ys⟩:=by
 have A4f:=trivial;exact Rg
theorem yg (x y z:Value) (b:Bk) (kd ky ch tt am fe:Int) (ys:Bool) (w:World) (V:BkV w w x y z b) (hb:Bok b) (hg:Ah kd ky ch tt am fe ys=false):Calls Tryz.prog 74 #[.agg #[b.tick,b.next,b.wallet,x,y,z], .agg #[kd,ky,ch,tt,am,fe,ys]] w fun e w'=>Bn w w' e b ⟨kd,ky,ch,tt,am,fe,ys⟩:=by
 have A4w:=trivial;exact Rl
theorem yi (x y z:Value) (b:Bk) (kd ky ch tt am fe:Int) (ys:Bool) (w:World) (V:BkV w w x y z b) (hb:Bok b) (hg:Ah kd ky ch tt am fe ys=true) (hn:b.next=1125899906842624):Calls Tryz.prog 74 #[.agg #[b.tick,b.next,b.wallet,x,y,z], .agg #[kd,ky,ch,tt,am,fe,ys]] w fun e w'=>Bn w w' e b ⟨kd,ky,ch,tt,am,fe,ys⟩:=by
 have en:(b.next == 1125899906842624)=true:=Lf;have HN:=lH hn;clear hn;have A4x:=trivial;exact Rl
end Go.Proofs.YtahefgkdbecemaaGreat
