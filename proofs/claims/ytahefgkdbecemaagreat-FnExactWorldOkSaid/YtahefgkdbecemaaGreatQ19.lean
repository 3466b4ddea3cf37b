/- The walks and the laws they lean on. -/
import Derived.Test.YtahefgkdbecemaaGreatQ18
namespace Go.Proofs.YtahefgkdbecemaaGreat
open Go.RowKit
set_option linter.unusedVariables false
set_option linter.unusedSimpArgs false
set_option maxRecDepth 100000
set_option maxHeartbeats 12800000
def F8:Kd Po Ln:=⟨fun x u => [.int .i64 x.id,u],2,Po.lines,fun x=>AE x.id,Ln.enc,3,Ln.ok,125,178,fun _ _=>rfl,fun _=>rfl⟩
theorem vF:(Tryz.prog.info? 125).map (fun i=>(i.zero,i.size,i.bytes))=some (some (.agg #[I0, .slice none 0 0]),2,32):=Cr
theorem A1B (x:Po) (u:Value) (h:u.oneCell'=true):∀ c∈F8.enc x u,c.oneCell'=true:=fun c hc=>by
 simp only [F8,List.mem_cons,List.not_mem_nil,or_false] at hc;rcases hc with rfl | rfl<;>first | rfl | exact h
def MQ (s:Lg × Int) (p:Po):Lg × Int:=if (BV s.1 p).1=0 then ((BV s.1 p).2,s.2+1) else s
def DQ (ps:List Po):Lg × Int:=ps.foldl MQ (Lg.zero,0)
theorem Up:Bq Lg.zero=true:=FG
theorem vd (ps:List Po):Mz Lg.zero ps=DQ ps:=by
 unfold Mz;rw [if_neg (by rw [Up];simp)];rfl
theorem vg {ps:List Po} {k:Nat} {x:Po} (ht:ps.take (k+1)=ps.take k ++ [x]):DQ (ps.take (k+1))=MQ (DQ (ps.take k)) x:=by unfold DQ;rw [ht,List.foldl_append];rfl
theorem RwO.putB {α:Type} {enc:α→List Value} {sz:Nat} {ok:α→Prop} {E:TypeId} {F:List Nat} {w:World} {B g o:Nat} {u v:Value} {xs:List α} (h:RwO enc sz ok E F w B u xs) (hB:g<B):RwO enc sz ok E F (w.setCell ⟨g,o,none⟩ v) B u xs:=h.kept (Ex.setCell (Ex.refl [g] _) sM v) (fun k hk hm=>by have:=(h.lt k hk).1;simp at hm;omega)
theorem As.putF {F:List Nat} {w:World} {B g o:Nat} {u v:Value} {m:Lg} (h:As F w B u m) (hn:g∉F):As F (w.setCell ⟨g,o,none⟩ v) B u m:=h.kept (Ex.setCell (Ex.refl [g] _) sM v) (fun k hk hm=>by simp at hm;subst hm;exact hn hk)
theorem uM (v:Value) (xs:List Ln) (w:World) (V:BE w w v xs) (hl:xs.length≤1048576):Calls Tryz.prog 183 #[v] w fun e w'=>(∃ F v',e = .returned v'∧Es F w' w v' xs)∧Below w w w':=by
 have hok:=V.oks;go_enter Tryz.func183,Tryz.ntmps183
 go_wp2_with (at_builtin;refine Da DS Tryz.underlying55 rfl dC dC (fun _=>rfl) Dh rfl _ _ rfl w (.slice none 0 0) [] rfl (AC.nil _ _) v xs rfl V sM oM (Nat.le_refl _) ?_)
 exact aU
theorem tq (v:Value) (l:Lg) (w:World) (V:LgV w w v l) (hl:l.lines.length≤1048576):Calls Tryz.prog 83 #[.agg #[l.last,v]] w fun e w'=>(∃ F v',e = .returned (.agg #[l.last,v'])∧As F w' w v' l)∧Below w w w':=by
 obtain ⟨a,n,c,rfl,hn,-⟩:=VS.form V.lines;have hi:=lH V.int;clear hn;go_enter Tryz.func83,Tryz.ntmps83
 have A4B:=trivial;exact RU
theorem ER:∀ x:Cn,∀ u∈x.enc,u.oneCell'=true:=fun x u hu=>by
 simp only [Cn.enc,List.mem_cons,List.not_mem_nil,or_false] at hu;exact RR
theorem JI:∀ x:Ht,∀ u∈x.enc,u.oneCell'=true:=fun x u hu=>by
 simp only [Ht.enc,List.mem_cons,List.not_mem_nil,or_false] at hu;exact RR
theorem I3:∀ x:Ci,∀ u∈x.enc,u.oneCell'=true:=fun x u hu=>by
 simp only [Ci.enc,List.mem_cons,List.not_mem_nil,or_false] at hu;rcases hu with rfl | rfl | rfl | rfl | rfl<;>rfl
theorem Vk (x y z:Value) (b:Bk) (w:World) (V:BkV w w x y z b) (hc:b.chans.length≤1048576) (hh:b.htlcs.length≤1048576) (ho:b.circles.length≤1048576):Calls Tryz.prog 141 #[.agg #[b.tick,b.next,b.wallet,x,y,z]] w fun e w'=>(∃ F x' y' z',e = .returned (.agg #[b.tick,b.next,b.wallet,x',y',z'])∧Ai F w' w x' y' z' b)∧Below w w w':=by
 have A4G:=trivial;exact ah
theorem XD (x y z:Value) (b:Bk) (w:World) (V:BkV w w x y z b) (hc:b.chans.length≤1048576) (hh:b.htlcs.length≤1048576) (ho:b.circles.length≤1048576):Calls Tryz.prog 137 #[.agg #[b.tick,b.next,b.wallet,x,y,z]] w fun e w'=>(∃ F x' y' z',e = .returned (.agg #[b.tick,b.next,b.wallet,x',y',z'])∧Ai F w' w x' y' z' b)∧Below w w w':=by
 exact ah
theorem zg {ls:List Ln} {k c:Int} {i:Nat} {x:Ln} (h:(ls.take i).all (fun y => !decide (y.kind=k∧y.ch=c))=true) (hx:ls[i]? = some x) (h1:x.kind=k) (h2:x.ch=c):IR ls k c=x.amt:=by
 have:=(IV (p:=fun y:Ln=>decide (y.kind=k∧y.ch=c)) h hx Ri).1
 unfold IR;rw [this];rfl
theorem vE {ls:List Ln} {k c:Int} (h:ls.all (fun y => !decide (y.kind=k∧y.ch=c))=true):IR ls k c=0:=by
 have:=(JA (p:=fun y:Ln=>decide (y.kind=k∧y.ch=c)) h).1
 unfold IR;rw [this];rfl
theorem zF (v:Value) (l:Lg) (kd ch:Int) (w:World) (V:LgV w w v l):Calls Tryz.prog 62 #[.agg #[l.last,v], .agg #[kd,ch]] w fun e w'=>e = .returned (Bj l kd ch)∧Below w w w':=by
 obtain ⟨a,n,c,rfl,hn,-⟩:=VS.form V.lines;have HN:=lH hn;have hnB:=VS.lenB V.lines;clear hn;go_enter Tryz.func62,Tryz.ntmps62
 go_upto_region 1 with fail
 refine cJ fun w0 L0 b0 hz => ?_;refine cW fun w1 A0 b1 => ?_;have LX:=L0.keep b1;have B1:=AD b1 b0;rw [hz] at A0;have VX:=V.lines.keep B1;clear L0 b0 b1 hz;obtain ⟨l0,l1⟩:=LX.c2;go_wp2_with fail
 refine (Pv l.last _ l.lines w1 VX).mono ?_;rintro e w2 ⟨rfl,b2⟩;have LX:=LX.keep b2;have AX:=A0.keep b2;have B2:=AD b2 B1;have VX:=VX.keep b2;clear l0 l1 A0 B1 b2;cases hl:Bq ⟨l.last,l.lines⟩
 ·exact bo
 have HL:Hid (Bq l=true):=hl;obtain ⟨a0,a1⟩:=AX.c2;clear hl;go_wp2_with fail
 refine (Qb kd ch w2).mono ?_;rintro e w3 ⟨rfl,b3⟩;have LX:=LX.keep b3;have AX:=AX.keep b3;have B3:=AD b3 B2;have VX:=VX.keep b3;clear a0 a1 B2 b3;cases ha:Eh kd ch
 ·exact bp
 have hbal:Hid (Bj l kd ch=IR l.lines kd ch):=Rj;clear ha;have l1:=LX.cell 1 _ rfl;go_wp2;go_loopw [6,18] (fun _ i wr=>∃ k:Nat,k≤n∧i=k∧Hid ((l.lines.take k).all (fun y => !decide (y.kind=kd∧y.ch=ch))=true)∧Below w3 w3 wr) (fun _ i _=>n - (intOf i).toNat)
 case atStart=>exact ⟨0,Nat.zero_le _,rfl,rfl,Below.refl _ _⟩
 case round =>
  exact br
theorem A2H (v:Value) (l:Lg) (kd ch:Int) (w:World) (V:LgV w w v l):Calls Tryz.prog 61 #[.agg #[l.last,v], .agg #[kd,ch]] w fun e w'=>e = .returned (Bj l kd ch)∧Below w w w':=by
 obtain ⟨a,n,c,rfl,hn,-⟩:=VS.form V.lines;have HN:=lH hn;have hnB:=VS.lenB V.lines;clear hn;go_enter Tryz.func61,Tryz.ntmps61
 go_upto_region 1 with fail
 refine cJ fun w0 L0 b0 hz => ?_;refine cW fun w1 A0 b1 => ?_;have LX:=L0.keep b1;have B1:=AD b1 b0;rw [hz] at A0;have VX:=V.lines.keep B1;clear L0 b0 b1 hz;obtain ⟨l0,l1⟩:=LX.c2;go_wp2_with fail
 refine (MJ l.last _ l.lines w1 VX).mono ?_;rintro e w2 ⟨rfl,b2⟩;have LX:=LX.keep b2;have AX:=A0.keep b2;have B2:=AD b2 B1;have VX:=VX.keep b2;clear l0 l1 A0 B1 b2;cases hl:Bq ⟨l.last,l.lines⟩
 ·exact bo
 have HL:Hid (Bq l=true):=hl;obtain ⟨a0,a1⟩:=AX.c2;clear hl;go_wp2_with fail
 refine (Qq kd ch w2).mono ?_;rintro e w3 ⟨rfl,b3⟩;have LX:=LX.keep b3;have AX:=AX.keep b3;have B3:=AD b3 B2;have VX:=VX.keep b3;clear a0 a1 B2 b3;cases ha:Eh kd ch
 ·exact bp
 have hbal:Hid (Bj l kd ch=IR l.lines kd ch):=Rj;clear ha;have l1:=LX.cell 1 _ rfl;go_wp2;go_loopw [6,18] (fun _ i wr=>∃ k:Nat,k≤n∧i=k∧Hid ((l.lines.take k).all (fun y => !decide (y.kind=kd∧y.ch=ch))=true)∧Below w3 w3 wr) (fun _ i _=>n - (intOf i).toNat)
 case atStart=>exact ⟨0,Nat.zero_le _,rfl,rfl,Below.refl _ _⟩
 case round =>
  exact br
theorem VZ (va vb:Value) (p q:Lg) (w:World) (V:LgV w w va p) (U:LgV w w vb q):Calls Tryz.prog 128 #[.agg #[p.last,va], .agg #[q.last,vb]] w fun e w'=>(∃ r,e = .returned (.bool r)∧(r=true↔p=q))∧Below w w w':=by
 have A4r:=trivial;exact bu
theorem A19 (va vb:Value) (p q:Lg) (w:World) (V:LgV w w va p) (U:LgV w w vb q):Calls Tryz.prog 120 #[.agg #[p.last,va], .agg #[q.last,vb]] w fun e w'=>(∃ r,e = .returned (.bool r)∧(r=true↔p=q))∧Below w w w':=by
 exact bu
end Go.Proofs.YtahefgkdbecemaaGreat
