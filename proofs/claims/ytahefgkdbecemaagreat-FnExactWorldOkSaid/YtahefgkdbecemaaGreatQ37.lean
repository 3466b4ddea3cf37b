/- The walks and the laws they lean on. -/
import Derived.Test.YtahefgkdbecemaaGreatQ23
import Derived.Test.YtahefgkdbecemaaGreatQ9
namespace Go.Proofs.YtahefgkdbecemaaGreat
open Go.RowKit
set_option linter.unusedVariables false
set_option linter.unusedSimpArgs false
set_option maxRecDepth 100000
set_option maxHeartbeats 12800000
theorem uT (b:Bk) (key:Int):EU (A1 b) key=(Aw b key || Ay b key):=by
 unfold EU A1 Aw Ay;rw [List.any_append,List.any_map,List.any_map];rfl
theorem yX {l:List Cn} {x y:Int} (h:x≠y):Cp l x y=(AI l x && AI l y):=by
 unfold Cp;rw [decide_eq_false h];rfl
theorem zT {w:World} {B:Nat} {x y z:Value} {b:Bk} (V:BkV w B x y z b):∀ k∈A1 b,AE k:=fun k hk=>by
 unfold A1 at hk;rcases List.mem_append.1 hk with h | h
 ·obtain ⟨p,hp,rfl⟩:=List.mem_map.1 h;exact (V.htlcs.oks p hp).1
 obtain ⟨p,hp,rfl⟩:=List.mem_map.1 h;exact (V.circles.oks p hp).1
theorem A0L {w:World} {B:Nat} {v:Value} {xs:List Int} (h:Ds w B v xs) (hk:∀ k∈xs,AE k):Cm w w v xs:=AC.vs (fun _=>rfl) h hk
theorem xK (F:List Nat) (x:Value) (g B:Nat) (b:Bk) (k0 ky ch tt am fe:Int) (ys:Bool) (w:World) (H:Wk F x w g B b [] 0) (hb:Bok b) (ho:Af b ⟨5,ky,ch,tt,am,fe,ys⟩=false) (hk0:k0=5) (hky:1≤ky∧ky≤1000000) (hch:1≤ch∧ch≤99) (htt:1≤tt∧tt≤99) (ha:1≤am∧am≤1125899906842624) (hf:0≤fe∧fe≤1125899906842624) (hct:ch≠tt) (hpart:AG (decide (60≤b.htlcs.length)) 14 (AG (!(AI b.chans ch && AI b.chans tt)) 6 (AG (Aw b ky || Ay b ky) 9 0))≠0):Calls Tryz.prog 154 #[.pointer (some ⟨g,0,none⟩), .agg #[k0,ky,ch,tt,am,fe,ys]] w fun e w'=>e = .returned (.tuple #[])∧Dn F g B b ⟨5,ky,ch,tt,am,fe,ys⟩ w w':=by
 exact bY
end Go.Proofs.YtahefgkdbecemaaGreat
