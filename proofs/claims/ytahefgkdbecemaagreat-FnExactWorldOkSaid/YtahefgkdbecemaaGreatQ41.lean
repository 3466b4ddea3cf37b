/- The walks and the laws they lean on. -/
import Derived.Test.YtahefgkdbecemaaGreatQ27
import Derived.Test.YtahefgkdbecemaaGreatQ28
import Derived.Test.YtahefgkdbecemaaGreatQ29
import Derived.Test.YtahefgkdbecemaaGreatQ30
import Derived.Test.YtahefgkdbecemaaGreatQ31
import Derived.Test.YtahefgkdbecemaaGreatQ32
import Derived.Test.YtahefgkdbecemaaGreatQ34
import Derived.Test.YtahefgkdbecemaaGreatQ35
import Derived.Test.YtahefgkdbecemaaGreatQ36
import Derived.Test.YtahefgkdbecemaaGreatQ38
import Derived.Test.YtahefgkdbecemaaGreatQ39
import Derived.Test.YtahefgkdbecemaaGreatQ40
namespace Go.Proofs.YtahefgkdbecemaaGreat
open Go.RowKit
set_option linter.unusedVariables false
set_option linter.unusedSimpArgs false
set_option maxRecDepth 100000
set_option maxHeartbeats 12800000
theorem tY (F:List Nat) (x:Value) (g B:Nat) (b:Bk) (k0 ky ch tt am fe:Int) (ys:Bool) (w:World) (H:Wk F x w g B b [] 0) (hb:Bok b) (ho:Af b ⟨6,ky,ch,tt,am,fe,ys⟩=false) (hk0:k0=6):Calls Tryz.prog 176 #[.pointer (some ⟨g,0,none⟩), .agg #[k0,ky,ch,tt,am,fe,ys]] w fun e w'=>e = .returned (.tuple #[])∧Dn F g B b ⟨6,ky,ch,tt,am,fe,ys⟩ w w':=by
 have hc:=Mj (b:=b) (e:=⟨6,ky,ch,tt,am,fe,ys⟩) ho (Or.inl rfl);cases hh:Aw b ky
 ·have hcd:AQ b ⟨6,ky,ch,tt,am,fe,ys⟩=15:=Dw;exact bh
 have hcd:AQ b ⟨6,ky,ch,tt,am,fe,ys⟩=0:=Dw;refine (zu F x g B b k0 ky ch tt am fe ys w H hb hh hk0).mono ?_;exact Id
theorem A1C (F:List Nat) (x:Value) (g B:Nat) (b:Bk) (k0 ky ch tt am fe:Int) (ys:Bool) (w:World) (H:Wk F x w g B b [] 0) (hb:Bok b) (ho:Af b ⟨7,ky,ch,tt,am,fe,ys⟩=false) (hk0:k0=7):Calls Tryz.prog 176 #[.pointer (some ⟨g,0,none⟩), .agg #[k0,ky,ch,tt,am,fe,ys]] w fun e w'=>e = .returned (.tuple #[])∧Dn F g B b ⟨7,ky,ch,tt,am,fe,ys⟩ w w':=by
 have hc:=Mj (b:=b) (e:=⟨7,ky,ch,tt,am,fe,ys⟩) ho (Or.inr rfl);cases hh:Aw b ky
 ·have hcd:AQ b ⟨7,ky,ch,tt,am,fe,ys⟩=15:=Dw;exact bh
 have hcd:AQ b ⟨7,ky,ch,tt,am,fe,ys⟩=0:=Dw;refine (A0A F x g B b k0 ky ch tt am fe ys w H hb hh hk0).mono ?_;exact Id
theorem xy (F:List Nat) (x:Value) (g B:Nat) (b:Bk) (k0 ky ch tt am fe:Int) (ys:Bool) (w:World) (H:Wk F x w g B b [] 0) (hb:Bok b) (ho:Af b ⟨10,ky,ch,tt,am,fe,ys⟩=false) (hk0:k0=10):Calls Tryz.prog 179 #[.pointer (some ⟨g,0,none⟩), .agg #[k0,ky,ch,tt,am,fe,ys]] w fun e w'=>e = .returned (.tuple #[])∧Dn F g B b ⟨10,ky,ch,tt,am,fe,ys⟩ w w':=by
 have hc:=MX (b:=b) (e:=⟨10,ky,ch,tt,am,fe,ys⟩) ho (Or.inl rfl);cases hh:Ay b ky
 ·have hcd:AQ b ⟨10,ky,ch,tt,am,fe,ys⟩=15:=Dw;exact bi
 have hcd:AQ b ⟨10,ky,ch,tt,am,fe,ys⟩=0:=Dw;refine (uW F x g B b k0 ky ch tt am fe ys w H hb hh hk0).mono ?_;exact Id
theorem xO (F:List Nat) (x:Value) (g B:Nat) (b:Bk) (k0 ky ch tt am fe:Int) (ys:Bool) (w:World) (H:Wk F x w g B b [] 0) (hb:Bok b) (ho:Af b ⟨11,ky,ch,tt,am,fe,ys⟩=false) (hk0:k0=11):Calls Tryz.prog 179 #[.pointer (some ⟨g,0,none⟩), .agg #[k0,ky,ch,tt,am,fe,ys]] w fun e w'=>e = .returned (.tuple #[])∧Dn F g B b ⟨11,ky,ch,tt,am,fe,ys⟩ w w':=by
 have hc:=MX (b:=b) (e:=⟨11,ky,ch,tt,am,fe,ys⟩) ho (Or.inr rfl);cases hh:Ay b ky
 ·have hcd:AQ b ⟨11,ky,ch,tt,am,fe,ys⟩=15:=Dw;exact bi
 have hcd:AQ b ⟨11,ky,ch,tt,am,fe,ys⟩=0:=Dw;refine (wI F x g B b k0 ky ch tt am fe ys w H hb hh hk0).mono ?_;exact Id
theorem XV {b:Bk} (hb:Bok b):(∀ h∈b.htlcs,0≤h.age∧h.age≤1125899906842624)∧∀ c∈b.chans,AE (DR c.score):=by
 exact bj
theorem A1m (F:List Nat) (x:Value) (g B:Nat) (b:Bk) (ky ch tt am fe:Int) (ys:Bool) (w:World) (H:Wk F x w g B b [] 0) (hb:Bok b) (ho:Af b ⟨8,ky,ch,tt,am,fe,ys⟩=false):Calls Tryz.prog 177 #[.pointer (some ⟨g,0,none⟩)] w fun e w'=>e = .returned (.tuple #[])∧Dn F g B b ⟨8,ky,ch,tt,am,fe,ys⟩ w w':=by
 have hcd:=yS (b:=b) (e:=⟨8,ky,ch,tt,am,fe,ys⟩) ho rfl;have ht:=of_decide_eq_false ((ES ho).2.2.2.2 rfl);have h0:=hb.tick;unfold Am at h0;refine (wi F x g B b [] 0 w H oM (XV hb).1 (XV hb).2).mono ?_;exact bl
theorem A1Q (F:List Nat) (x:Value) (g B:Nat) (b:Bk) (ky ch tt am fe:Int) (ys:Bool) (w:World) (H:Wk F x w g B b [] 0) (hb:Bok b) (ho:Af b ⟨6,ky,ch,tt,am,fe,ys⟩=false) (hky:1≤ky):Calls Tryz.prog 155 #[.pointer (some ⟨g,0,none⟩),ky,true] w fun e w'=>e = .returned (.tuple #[])∧Dn F g B b ⟨6,ky,ch,tt,am,fe,ys⟩ w w':=by
 have hc:=Mj (b:=b) (e:=⟨6,ky,ch,tt,am,fe,ys⟩) ho (Or.inl rfl);cases hh:Aw b ky
 ·have hcd:AQ b ⟨6,ky,ch,tt,am,fe,ys⟩=15:=Dw;refine (Us F x g B b ky true w H hb hky hh).mono ?_;exact JQ
 have hcd:AQ b ⟨6,ky,ch,tt,am,fe,ys⟩=0:=Dw;refine (yl F x g B b ky w H hb hky hh).mono ?_;exact Id
theorem wQ (F:List Nat) (x:Value) (g B:Nat) (b:Bk) (ky ch tt am fe:Int) (ys:Bool) (w:World) (H:Wk F x w g B b [] 0) (hb:Bok b) (ho:Af b ⟨7,ky,ch,tt,am,fe,ys⟩=false) (hky:1≤ky):Calls Tryz.prog 155 #[.pointer (some ⟨g,0,none⟩),ky,false] w fun e w'=>e = .returned (.tuple #[])∧Dn F g B b ⟨7,ky,ch,tt,am,fe,ys⟩ w w':=by
 have hc:=Mj (b:=b) (e:=⟨7,ky,ch,tt,am,fe,ys⟩) ho (Or.inr rfl);cases hh:Aw b ky
 ·have hcd:AQ b ⟨7,ky,ch,tt,am,fe,ys⟩=15:=Dw;refine (Us F x g B b ky false w H hb hky hh).mono ?_;exact JQ
 have hcd:AQ b ⟨7,ky,ch,tt,am,fe,ys⟩=0:=Dw;refine (uS F x g B b ky w H hb hky hh).mono ?_;exact Id
theorem A1D (F:List Nat) (x:Value) (g B:Nat) (b:Bk) (ky ch tt am fe:Int) (ys:Bool) (w:World) (H:Wk F x w g B b [] 0) (hb:Bok b) (ho:Af b ⟨10,ky,ch,tt,am,fe,ys⟩=false) (hky:1≤ky):Calls Tryz.prog 158 #[.pointer (some ⟨g,0,none⟩),ky,true] w fun e w'=>e = .returned (.tuple #[])∧Dn F g B b ⟨10,ky,ch,tt,am,fe,ys⟩ w w':=by
 have hc:=MX (b:=b) (e:=⟨10,ky,ch,tt,am,fe,ys⟩) ho (Or.inl rfl);cases hh:Ay b ky
 ·have hcd:AQ b ⟨10,ky,ch,tt,am,fe,ys⟩=15:=Dw;refine (WT F x g B b ky true w H hb hky hh).mono ?_;exact JQ
 have hcd:AQ b ⟨10,ky,ch,tt,am,fe,ys⟩=0:=Dw;refine (yT F x g B b ky w H hb hky hh).mono ?_;exact Id
theorem xg (F:List Nat) (x:Value) (g B:Nat) (b:Bk) (ky ch tt am fe:Int) (ys:Bool) (w:World) (H:Wk F x w g B b [] 0) (hb:Bok b) (ho:Af b ⟨11,ky,ch,tt,am,fe,ys⟩=false) (hky:1≤ky):Calls Tryz.prog 158 #[.pointer (some ⟨g,0,none⟩),ky,false] w fun e w'=>e = .returned (.tuple #[])∧Dn F g B b ⟨11,ky,ch,tt,am,fe,ys⟩ w w':=by
 have hc:=MX (b:=b) (e:=⟨11,ky,ch,tt,am,fe,ys⟩) ho (Or.inr rfl);cases hh:Ay b ky
 ·have hcd:AQ b ⟨11,ky,ch,tt,am,fe,ys⟩=15:=Dw;refine (WT F x g B b ky false w H hb hky hh).mono ?_;exact JQ
 have hcd:AQ b ⟨11,ky,ch,tt,am,fe,ys⟩=0:=Dw;refine (A11 F x g B b ky w H hb hky hh).mono ?_;exact Id
theorem VI {b:Bk} (hb:Bok b):(∀ h∈b.htlcs,0≤h.age∧h.age≤1125899906842624)∧∀ c∈b.chans,AE (DR c.score):=by
 exact bj
theorem uF (F:List Nat) (x:Value) (g B:Nat) (b:Bk) (ls:List Ln) (w:World) (H:Wk F x w g B b ls 0) (ht:b.tick=1125899906842624):Calls Tryz.prog 156 #[.pointer (some ⟨g,0,none⟩)] w fun e w'=>e = .returned (.tuple #[])∧Wk F x w' g B b ls 2∧Wf g F F w w':=by
 obtain ⟨y,z,l,P,-,-⟩:=H.cells;have p0:w.cell? ⟨g,0,none⟩=.some b.tick:=P.cell 0 _ rfl;rw [ht] at p0;clear P;have HT:=lH ht;clear ht;go_enter Tryz.func156,Tryz.ntmps156
 go_wp2_with fail
 refine (I4 F _ g B b ls 0 2 true w H dC).mono ?_;rintro e w2 ⟨rfl,H2,W2⟩;have A43:=trivial;exact Ie
theorem uQ (F:List Nat) (x:Value) (g B:Nat) (b:Bk) (ky ch tt am fe:Int) (ys:Bool) (w:World) (H:Wk F x w g B b [] 0) (hb:Bok b) (hn:decide (b.next=1125899906842624)=false):Calls Tryz.prog 156 #[.pointer (some ⟨g,0,none⟩)] w fun e w'=>e = .returned (.tuple #[])∧Dn F g B b ⟨8,ky,ch,tt,am,fe,ys⟩ w w':=by
 have hc:=A16 (b:=b) (e:=⟨8,ky,ch,tt,am,fe,ys⟩) hn rfl;have h0:=hb.tick;unfold Am at h0;by_cases ht:b.tick=1125899906842624
 ·have hcd:AQ b ⟨8,ky,ch,tt,am,fe,ys⟩=2:=by rw [hc,decide_eq_true ht];rfl
  refine (uF F x g B b [] w H ht).mono ?_;exact JQ
 have hcd:AQ b ⟨8,ky,ch,tt,am,fe,ys⟩=0:=by rw [hc,decide_eq_false ht];rfl
 refine (xB F x g B b [] w H oM (VI hb).1 (VI hb).2).mono ?_;exact bl
theorem I6 {b:Bk} {e:Ev} (hn:decide (b.next=1125899906842624)=false) (h:e.kind≠1∧e.kind≠2∧e.kind≠3∧e.kind≠8):Af b e=false:=by
 unfold Af;rw [hn,if_neg h.1,if_neg h.2.1,if_neg h.2.2.1,if_neg h.2.2.2];rfl
theorem Wg {b:Bk} {e:Ev} (hn:decide (b.next=1125899906842624)=false) (h:e.kind=3) (ho:(AI b.chans e.ch && decide (1125899906842624<b.wallet+(AM b.chans e.ch).loc - e.fee))=false):Af b e=false:=by
 unfold Af;rw [hn,if_neg oM,if_neg oM,if_pos h,ho];rfl
theorem uY (F:List Nat) (x:Value) (g B:Nat) (b:Bk) (k0 ky ch tt am fe:Int) (ys:Bool) (w:World) (H:Wk F x w g B b [] 0) (hb:Bok b) (ho:Af b ⟨5,ky,ch,tt,am,fe,ys⟩=false) (hk0:k0=5) (hky:1≤ky∧ky≤1000000) (hch:1≤ch∧ch≤99) (htt:1≤tt∧tt≤99) (ha:1≤am∧am≤1125899906842624) (hf:0≤fe∧fe≤1125899906842624) (hct:ch≠tt):Calls Tryz.prog 154 #[.pointer (some ⟨g,0,none⟩), .agg #[k0,ky,ch,tt,am,fe,ys]] w fun e w'=>e = .returned (.tuple #[])∧Dn F g B b ⟨5,ky,ch,tt,am,fe,ys⟩ w w':=by
 by_cases h1:AG (decide (60≤b.htlcs.length)) 14 (AG (!(AI b.chans ch && AI b.chans tt)) 6 (AG (Aw b ky || Ay b ky) 9 0))=0
 ·by_cases h2:AQ b ⟨5,ky,ch,tt,am,fe,ys⟩=0
  ·exact yn F x g B b k0 ky ch tt am fe ys w H hb ho hk0 hky hch htt ha hf hct h1 h2
  exact A1J F x g B b k0 ky ch tt am fe ys w H hb ho hk0 hky hch htt ha hf hct h1 h2
 exact xK F x g B b k0 ky ch tt am fe ys w H hb ho hk0 hky hch htt ha hf hct h1
end Go.Proofs.YtahefgkdbecemaaGreat
