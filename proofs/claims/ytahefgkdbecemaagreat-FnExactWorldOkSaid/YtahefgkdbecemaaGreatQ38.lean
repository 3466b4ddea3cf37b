/- The walks and the laws they lean on. -/
import Derived.Test.YtahefgkdbecemaaGreatQ37
namespace Go.Proofs.YtahefgkdbecemaaGreat
open Go.RowKit
set_option linter.unusedVariables false
set_option linter.unusedSimpArgs false
set_option maxRecDepth 100000
set_option maxHeartbeats 12800000
theorem A0m (F:List Nat) (x:Value) (g B:Nat) (b:Bk) (k0 ky ch tt am fe:Int) (ys:Bool) (w:World) (H:Wk F x w g B b [] 0) (hb:Bok b) (ho:Af b ⟨9,ky,ch,tt,am,fe,ys⟩=false) (hk0:k0=9) (hky:1≤ky∧ky≤1000000) (hch:1≤ch∧ch≤99) (htt:1≤tt∧tt≤99) (ha:1≤am∧am≤1125899906842624) (hf:0≤fe∧fe≤1125899906842624) (hct:ch≠tt):Calls Tryz.prog 157 #[.pointer (some ⟨g,0,none⟩), .agg #[k0,ky,ch,tt,am,fe,ys]] w fun e w'=>e = .returned (.tuple #[])∧Dn F g B b ⟨9,ky,ch,tt,am,fe,ys⟩ w w':=by
 exact bT
end Go.Proofs.YtahefgkdbecemaaGreat
