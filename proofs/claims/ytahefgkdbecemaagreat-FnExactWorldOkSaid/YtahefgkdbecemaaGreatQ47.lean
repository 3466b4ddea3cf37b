/- The walks and the laws they lean on. -/
import Derived.Test.YtahefgkdbecemaaGreatQ25
import Derived.Test.YtahefgkdbecemaaGreatQ42
import Derived.Test.YtahefgkdbecemaaGreatQ33
import Derived.Test.YtahefgkdbecemaaGreatQ43
import Derived.Test.YtahefgkdbecemaaGreatQ44
import Derived.Test.YtahefgkdbecemaaGreatQ45
import Derived.Test.YtahefgkdbecemaaGreatQ46
namespace Go.Proofs.YtahefgkdbecemaaGreat
open Go.RowKit
set_option linter.unusedVariables false
set_option linter.unusedSimpArgs false
set_option maxRecDepth 100000
set_option maxHeartbeats 12800000
theorem A2Q (x y z v:Value) (b:Bk) (es:List Ev) (w:World) (V:BkV w w x y z b) (hb:Bok b) (E:Bf w w v es) (hl:es.length≤1048576):Calls Tryz.prog 67 #[.agg #[b.tick,b.next,b.wallet,x,y,z],v] w fun e w'=>(∃ F us x' y' z' p c,e = .returned (.tuple #[.agg #[.int .i64 (Bo b es).book.tick, .int .i64 (Bo b es).book.next, .int .i64 (Bo b es).book.wallet,x',y',z'],p,c])∧Ai F w' w x' y' z' (Bo b es).book∧ON F8 w' w p (Bo b es).ps us∧AC DI 1 3 w' w c (Bo b es).codes)∧Below w w w':=by
 have A4p:=trivial;exact bm
theorem vK (v:Value) (es:List Ev) (w:World) (E:Bf w w v es) (hl:es.length≤1048576):Calls Tryz.prog 126 #[v] w fun e w'=>(∃ F G x y z l,e = .returned (.tuple #[.agg #[.int .i64 (BB es).book.tick, .int .i64 (BB es).book.next, .int .i64 (BB es).book.wallet,x,y,z], .agg #[.int .i64 (BB es).ledger.last,l], .bool (BB es).ok])∧Ai F w' w x y z (BB es).book∧As G w' w l (BB es).ledger)∧Below w w w':=by
 go_enter Tryz.func126,Tryz.ntmps126
 have A4q:=trivial;exact bn
theorem A0p (c d x y z l p q:Value) (h:Hb) (w:World) (V:HbV w w c d x y z l p q h) (hB:Kk h):Calls Tryz.prog 52 #[.agg #[c,d,h.log.next,h.log.epoch,h.book.tick,h.book.next,h.book.wallet,x,y,z,h.ledger.last,l,p,q]] w fun e w'=>e = .returned (Bd h)∧Below w w w':=by
 have A4s:=trivial;exact bv
theorem Um (c d x y z l p q c2 d2 t s k:Value) (W:Wd) (w:World) (V:WdV w w c d x y z l p q c2 d2 t s k W) (hB:Jp W):Calls Tryz.prog 12 #[.agg #[W.up,c,d,W.hub.log.next,W.hub.log.epoch,W.hub.book.tick,W.hub.book.next,W.hub.book.wallet,x,y,z,W.hub.ledger.last,l,p,q,c2,d2,t,s,k]] w fun e w'=>e = .returned (DY W)∧Below w w w':=by
 have A4v:=trivial;exact cC
theorem wu (x y z:Value) (b:Bk) (kd ky ch tt am fe:Int) (ys:Bool) (w:World) (V:BkV w w x y z b) (hb:Bok b):Calls Tryz.prog 74 #[.agg #[b.tick,b.next,b.wallet,x,y,z], .agg #[kd,ky,ch,tt,am,fe,ys]] w fun e w'=>Bn w w' e b ⟨kd,ky,ch,tt,am,fe,ys⟩:=by
 cases hg:Ah kd ky ch tt am fe ys with
 | false=>exact yg x y z b kd ky ch tt am fe ys w V hb hg
 | true =>
  by_cases hn:b.next=1125899906842624
  ·exact yi x y z b kd ky ch tt am fe ys w V hb hg hn
  have hk:=Ma hg;by_cases h1:kd≤3
  ·exact A2E x y z b kd ky ch tt am fe ys w V hb hg hn oM
  by_cases h2:kd=4
  ·exact xP x y z b kd ky ch tt am fe ys w V hb hg hn h2
  exact xv x y z b kd ky ch tt am fe ys w V hb hg hn oM
theorem tW (x y z v:Value) (b:Bk) (es:List Ev) (w:World) (V:BkV w w x y z b) (hb:Bok b) (E:Bf w w v es) (hl:es.length≤1048576):Calls Tryz.prog 63 #[.agg #[b.tick,b.next,b.wallet,x,y,z],v] w fun e w'=>(∃ F us x' y' z' p c,e = .returned (.tuple #[.agg #[.int .i64 (Bo b es).book.tick, .int .i64 (Bo b es).book.next, .int .i64 (Bo b es).book.wallet,x',y',z'],p,c])∧Ai F w' w x' y' z' (Bo b es).book∧ON F8 w' w p (Bo b es).ps us∧AC DI 1 3 w' w c (Bo b es).codes)∧Below w w w':=by
 exact bm
theorem A0l (v:Value) (es:List Ev) (w:World) (E:Bf w w v es) (hl:es.length≤1048576):Calls Tryz.prog 119 #[v] w fun e w'=>(∃ F G x y z l,e = .returned (.tuple #[.agg #[.int .i64 (BB es).book.tick, .int .i64 (BB es).book.next, .int .i64 (BB es).book.wallet,x,y,z], .agg #[.int .i64 (BB es).ledger.last,l], .bool (BB es).ok])∧Ai F w' w x y z (BB es).book∧As G w' w l (BB es).ledger)∧Below w w w':=by
 go_enter Tryz.func119,Tryz.ntmps119
 exact bn
theorem A1I (c d x y z l p q:Value) (h:Hb) (w:World) (V:HbV w w c d x y z l p q h) (hB:Kk h):Calls Tryz.prog 43 #[.agg #[c,d,h.log.next,h.log.epoch,h.book.tick,h.book.next,h.book.wallet,x,y,z,h.ledger.last,l,p,q]] w fun e w'=>e = .returned (Bd h)∧Below w w w':=by
 exact bv
theorem Xe (c d x y z l p q c2 d2 t s k:Value) (W:Wd) (w:World) (V:WdV w w c d x y z l p q c2 d2 t s k W) (hB:Jp W):Calls Tryz.prog 10 #[.agg #[W.up,c,d,W.hub.log.next,W.hub.log.epoch,W.hub.book.tick,W.hub.book.next,W.hub.book.wallet,x,y,z,W.hub.ledger.last,l,p,q,c2,d2,t,s,k]] w fun e w'=>e = .returned (DY W)∧Below w w w':=by
 exact cC
theorem NB (l:Lg) (k c:Int) : -1125899906842624≤Bj l k c∧Bj l k c≤1125899906842624:=by
 unfold Bj;split
 ·rename_i h;unfold IR
  cases hf:l.lines.find? fun x=>decide (x.kind=k∧x.ch=c) with
  | none=>simp
  | some x =>
   have hl:=(Ec (K5 (Bool.and_eq_true_iff.1 h).1).2.2).1 x (List.mem_of_find?_eq_some hf);(have:=IF hl);simpa using this
 omega
theorem A0G (c d x y z l p q c2 d2 t s k:Value) (W:Wd) (w:World) (V:WdV w w c d x y z l p q c2 d2 t s k W) (hB:Jp W):Calls Tryz.prog 15 #[.agg #[W.up,c,d,W.hub.log.next,W.hub.log.epoch,W.hub.book.tick,W.hub.book.next,W.hub.book.wallet,x,y,z,W.hub.ledger.last,l,p,q,c2,d2,t,s,k]] w fun e w'=>e = .returned (G8 W)∧Below w w w':=by
 have A47:=trivial;exact Rn
theorem A0d (c d x y z l p q c2 d2 t s k:Value) (W:Wd) (w:World) (V:WdV w w c d x y z l p q c2 d2 t s k W) (hB:Jp W):Calls Tryz.prog 14 #[.agg #[W.up,c,d,W.hub.log.next,W.hub.log.epoch,W.hub.book.tick,W.hub.book.next,W.hub.book.wallet,x,y,z,W.hub.ledger.last,l,p,q,c2,d2,t,s,k]] w fun e w'=>e = .returned (G8 W)∧Below w w w':=by
 exact Rn
end Go.Proofs.YtahefgkdbecemaaGreat
