/- The walks and the laws they lean on. -/
import Derived.Test.YtahefgkdbecemaaGreatQ26
import Derived.Test.YtahefgkdbecemaaGreatQ41
namespace Go.Proofs.YtahefgkdbecemaaGreat
open Go.RowKit
set_option linter.unusedVariables false
set_option linter.unusedSimpArgs false
set_option maxRecDepth 100000
set_option maxHeartbeats 12800000
theorem td (x y z:Value) (b:Bk) (kd ky ch tt am fe:Int) (ys:Bool) (w:World) (V:BkV w w x y z b) (hb:Bok b) (hg:Ah kd ky ch tt am fe ys=true) (ho:Af b ⟨kd,ky,ch,tt,am,fe,ys⟩=false):Calls Tryz.prog 81 #[.agg #[b.tick,b.next,b.wallet,x,y,z], .agg #[kd,ky,ch,tt,am,fe,ys]] w fun e w'=>Bn w w' e b ⟨kd,ky,ch,tt,am,fe,ys⟩:=by
 exact Rg
theorem A1q (x y z:Value) (b:Bk) (kd ky ch tt am fe:Int) (ys:Bool) (w:World) (V:BkV w w x y z b) (hb:Bok b):Calls Tryz.prog 81 #[.agg #[b.tick,b.next,b.wallet,x,y,z], .agg #[kd,ky,ch,tt,am,fe,ys]] w fun e w'=>Bn w w' e b ⟨kd,ky,ch,tt,am,fe,ys⟩:=by
 cases hg:Ah kd ky ch tt am fe ys with
 | false=>exact tV x y z b kd ky ch tt am fe ys w V hb hg
 | true =>
  cases ho:Af b ⟨kd,ky,ch,tt,am,fe,ys⟩ with
  | true=>exact vi x y z b kd ky ch tt am fe ys w V hb hg ho
  | false=>exact td x y z b kd ky ch tt am fe ys w V hb hg ho
end Go.Proofs.YtahefgkdbecemaaGreat
