/- The walks and the laws they lean on. -/
import Derived.Test.YtahefgkdbecemaaGreatQ16
import Derived.Test.YtahefgkdbecemaaGreatQ19
namespace Go.Proofs.YtahefgkdbecemaaGreat
open Go.RowKit
set_option linter.unusedVariables false
set_option linter.unusedSimpArgs false
set_option maxRecDepth 100000
set_option maxHeartbeats 12800000
theorem wD (kd ky ch tt am fe:Nat) (ys:Bool) (w:World) (hg:(⟨kd,ky,ch,tt,am,fe,ys⟩:Ev).good=true):Calls Tryz.prog 159 #[.agg #[.int .i64 (kd:Int), .int .i64 (ky:Int), .int .i64 (ch:Int), .int .i64 (tt:Int), .int .i64 (am:Int), .int .i64 (fe:Int),ys]] w fun e w'=>(∃ v',e = .returned (.tuple #[v',true])∧AK w' w v' (Ep ⟨kd,ky,ch,tt,am,fe,ys⟩))∧Below w w w':=by
 exact aF
def Uq (xs:List UInt8) (e:Ending):Prop :=
 (∃ ev,DP xs=some ev∧e = .returned (.tuple #[.agg #[.int .i64 ev.kind, .int .i64 ev.key, .int .i64 ev.ch, .int .i64 ev.tw, .int .i64 ev.amt, .int .i64 ev.fee, .bool ev.yes],true]))∨(DP xs=none∧e = .returned (.tuple #[.agg #[I0,I0,I0,I0,I0,I0,false],false]))
theorem Pi {xs:List UInt8} (h:xs.length≠22):DP xs=none:=by unfold DP;rw [if_neg h]
theorem vA {xs:List UInt8} (h:(Ej xs).good=false):DP xs=none:=by
 unfold DP;exact Z9
theorem A0h {xs:List UInt8} (h:Ep (Ej xs)≠xs):DP xs=none:=by
 unfold DP;split
 ·rw [if_neg (fun e=>h e.2)]
 rfl
theorem A13 {xs:List UInt8} (h0:xs.length=22) (h1:(Ej xs).good=true) (h2:Ep (Ej xs)=xs):DP xs=some (Ej xs):=by
 unfold DP;rw [if_pos h0,if_pos ⟨h1,h2⟩]
theorem Mo {w:World} {B g off n c:Nat} {xs:List UInt8} (V:Ar w B (.slice (some ⟨g,off,none⟩) n c) xs) {k:Nat} (hk:k<n):∃ x:UInt8,w.cell? ⟨g,off+k,none⟩=some (.int .u8 (x.toNat:Int))∧DE xs k=x.toNat:=by
 obtain ⟨a',n',c',e,-,-,F⟩:=V;have A3r:=trivial;exact DL
theorem yB (xs:List UInt8) (i n:Nat):num (part xs i n)<256 ^ n:=by
 have h1:=Qd (part xs i n);have h2:(part xs i n).length≤n:=aG;exact Nat.lt_of_lt_of_le h1 (Nat.pow_le_pow_right oM h2)
theorem Mk (xs:List UInt8) (k:Nat) (h:k<xs.length):num (part xs k 1)=DE xs k:=by
 have hx:xs[k]? = some xs[k]:=List.getElem?_eq_getElem h;unfold DE part;rw [hx,Wx hx];simp [num]
theorem A06 (v:Value) (xs:List UInt8) (w:World) (V:Ar w w v xs) (hx:xs.length≤1048576):Calls Tryz.prog 129 #[v] w fun e w'=>Uq xs e∧Below w w w':=by
 obtain ⟨a,n,c,rfl,hn,hnc⟩:=VS.form V;have HN:=lH hn;rw [hn] at hx;clear hn;go_enter Tryz.func129,Tryz.ntmps129
 have A3s:=trivial;exact JP
theorem A1v {w:World} {B n c:Nat} {a:Option Addr} {xs:List UInt8} (V:Ar w B (.slice a n c) xs):(convert 161 9 (.slice a n c)).run Tryz.prog w = .ok (.string ⟨xs.toArray⟩) w:=by
 obtain ⟨a',n',c',e,hc,hnil,F⟩:=id V;have A3t:=trivial;exact DL
theorem Iy (v:Value) (xs:List UInt8) (i size:Nat) (w:World) (V:Ar w w v xs) (h1:1≤size) (h7:size≤7) (hi:i≤1000) (hx:xs.length≤1048576) :
 Calls Tryz.prog 220 #[v,i,size] w fun e w'=>(∃ (n:Nat) (q:Bool),e = .returned (.tuple #[n,q])∧n<256 ^ size∧Hid (i+size≤xs.length→n=num (part xs i size)))∧w=w':=by
 by_cases h:i+size≤xs.length
 ·refine (NA v xs i size w V h1 h7 h hx).mono ?_;rintro e w' ⟨rfl,rfl⟩;exact ⟨⟨_,_,rfl,yB xs i size,fun _=>rfl⟩,rfl⟩
 refine (A0j v xs i size w V h1 h7 oM hi hx).mono ?_
 rintro e w' ⟨rfl,rfl⟩
 exact ⟨⟨0,_,rfl,Nat.pow_pos oM,fun hh=>absurd hh h⟩,rfl⟩
theorem A1H (v:Value) (xs:List UInt8) (w:World) (V:Ar w w v xs) (hx:xs.length≤1048576):Calls Tryz.prog 121 #[v] w fun e w'=>Uq xs e∧Below w w w':=by
 obtain ⟨a,n,c,rfl,hn,hnc⟩:=VS.form V;have HN:=lH hn;rw [hn] at hx;clear hn;go_enter Tryz.func121,Tryz.ntmps121
 have A3u:=trivial;exact JP
def Dp:Kd Sc UInt8:=⟨fun x u => [.int .i64 x.seq, .int .i64 x.epoch,u],3,Sc.body,fun x=>AE x.seq∧AE x.epoch,Ba,1,fun _=>True,163,5,fun _ _=>rfl,fun _=>rfl⟩
theorem Qi:(Tryz.prog.info? 163).map (fun i=>(i.zero,i.size,i.bytes))=some (some (.agg #[I0,I0, .slice none 0 0]),3,40):=Cr
theorem Qc (x:Sc) (u:Value) (h:u.oneCell'=true):∀ c∈Dp.enc x u,c.oneCell'=true:=fun c hc=>by
 simp only [Dp,List.mem_cons,List.not_mem_nil,or_false] at hc;rcases hc with rfl | rfl | rfl<;>first | rfl | exact h
theorem Bx.ex {w w':World} {b:Nat} {L:List Value} {F:List Nat} (h:Bx w b L) (hx:Ex F w w') (hn:b∉F):Bx w' b L:=by
 have hk:=hx.block b h.lt hn;exact RO
theorem ON.made2 {α β:Type} {K:Kd α β} (w:World) (B:Nat) (hB:B≤w.heap.size):ON K (w.alloc (.cells #[] K.E)) B (.slice (some ⟨w,0,none⟩) 0 0) ([]:List α) []:=by
 refine ⟨rfl,?_,AP,AP,AP,by simp [A5,Value.ownBlock]⟩;exact World.ownsRow_made w #[] 0 hB FD sM
theorem W8 {d:Dk} (h:BO d=false):BQ d = []:=by unfold BQ;rw [if_neg EK]
theorem Wj {d:Dk} (h:BO d=true):BQ d=DM d 0 0 d.cells.length:=by unfold BQ;rw [if_pos h]
theorem XW {l:List UInt8} {s:Sc} (h:Ca l=some s):(0≤s.seq∧s.seq≤599)∧(1≤s.epoch∧s.epoch≤16000000)∧s.body.length≤100:=NG (vx h).1
theorem YV (v0 v1:Value) (d:Dk) (w:World) (V:DkV w w v0 v1 d):Calls Tryz.prog 118 #[.agg #[v0,v1]] w fun e w'=>(∃ v' us,e = .returned (.tuple #[v', .int .i64 (BQ d).length])∧ON Dp w' w v' (BQ d) us)∧Below w w w':=by
 have A3v:=trivial;exact Nd
theorem yN (k:Nat) (sq ep:Int) (v:Value) (ob:Nat) (w:World) (hv:∃ a n c,v = .slice a n c):Calls Tryz.prog 224 #[k, .agg #[sq,ep,v],false, .pointer (some ⟨ob,0,none⟩)] w fun e w'=>e = .returned false∧Below w w w':=by
 obtain ⟨a,n,c,rfl⟩:=hv;exact RQ
theorem zN (k:Nat) (sq ep:Int) (v:Value) (ob:Nat) (w:World) (hv:∃ a n c,v = .slice a n c) (h:sq≠(k:Int)):Calls Tryz.prog 224 #[k, .agg #[sq,ep,v],true, .pointer (some ⟨ob,0,none⟩)] w fun e w'=>e = .returned false∧Below w w w':=by
 obtain ⟨a,n,c,rfl⟩:=hv;have h1:(sq != (k:Int))=true:=EK;exact RQ
theorem A10 (k:Nat) (ep:Int) (v:Value) (ob B:Nat) (pre:List Sc) (us:List Value) (out:Value) (lst:Sc) (w:World) (hv:∃ a n c,v = .slice a n c) (hob:w.cell? ⟨ob,0,none⟩=some out) (ho:ON Dp w B out pre us) (hl:pre.length=k) (h0:0<k) (hk:k≤600) (hlast:pre[k - 1]? = some lst) (h:ep<lst.epoch):Calls Tryz.prog 224 #[k, .agg #[k,ep,v],true, .pointer (some ⟨ob,0,none⟩)] w fun e w'=>e = .returned false∧Below w w w':=by
 obtain ⟨a,n,c,rfl⟩:=hv;obtain ⟨ao,no,co,rfl,hno,-,hon,-,-,hat⟩:=ho.vn;obtain ⟨b,off,u,rfl,hb,hu,hc⟩:=hat (k - 1) lst hlast;have c1:w.cell? ⟨b,off+(k - 1)*3+1,none⟩=.some lst.epoch:=hc 1 _ rfl;have h1:((k:Int) != (k:Int))=false:=AP;have h2:decide (0<k)=true:=decide_eq_true h0;have h3:decide (ep<lst.epoch)=true:=decide_eq_true h;have hw:IntKind.i64.wrap ((k:Int) - 1)=((k - 1:Nat):Int):=Ao;have hob2:=Lib.lt_of_cell hob;obtain ⟨j,hj⟩:∃ j,j=k - 1:=⟨_,rfl⟩;rw [← hj] at c1 hw;have hjn:j<no:=AA;clear hat hc hu hlast h hj ho;exact RQ
theorem A1x (k:Nat) (ep:Int) (v:Value) (bd:List UInt8) (ob B:Nat) (pre:List Sc) (us:List Value) (out:Value) (w:World) (hu:AK w B v bd) (hun:∀ b∈v.ownBlock.toList,b∉A5 (out :: us)) (hep:AE ep) (hob:w.cell? ⟨ob,0,none⟩=some out) (hfz:w.frozen? ⟨ob,0,none⟩=false) (hoB:ob<B) (hB:B≤w.heap.size) (ho:ON Dp w B out pre us) (hl:pre.length=k) (hk:k≤600)
 (h:k=0∨∃ lst,pre[k - 1]? = some lst∧lst.epoch≤ep):Calls Tryz.prog 224 #[k, .agg #[k,ep,v],true, .pointer (some ⟨ob,0,none⟩)] w fun e w'=>e = .returned true∧∃ out',w'.cell? ⟨ob,0,none⟩=some out'∧w'.frozen? ⟨ob,0,none⟩=false∧ON Dp w' B out' (pre ++ [⟨k,ep,bd⟩]) (us ++ [v])∧∃ F,Ex F w w'∧∀ b∈F,b=ob∨B≤b:=by
 obtain ⟨a,c,rfl,-⟩:=AK.form hu
 obtain ⟨ao,co,rfl,-,-⟩:=ho.form
 have HL:=lH hl
 have hob2:=Lib.lt_of_cell hob
 have h1:((k:Int) != (k:Int))=false:=AP
 go_enter Tryz.func224,Tryz.ntmps224
 go_upto_region 1 with fail
 refine cW fun w0 P5 b5 => ?_
 have P0:=P5
 have HO0:=ho.keep b5
 have O0:=hu.keep b5
 have c0:=BN b5 hob
 have f0:w0.frozen? ⟨ob,0,none⟩=false:=by rw [JB b5 hob2];exact hfz
 have z0:=b5.size
 obtain ⟨p0,p1⟩:=P5.c2
 clear P5
 rcases h with h | ⟨lst,hlast,hle⟩
 ·have h2:decide (0<k)=false:=decide_eq_false oM;clear hl h;go_wp2;go_quiet (fail)
  clear p0 p1 h1 h2;exact aH
 by_cases hk0:0<k
 ·have h2:decide (0<k)=true:=decide_eq_true hk0;have h3:decide (ep<lst.epoch)=false:=decide_eq_false oM;obtain ⟨ao',no,co',e,hno,-,hon,-,-,hat⟩:=HO0.vn;have A3w:=trivial;exact DL
 have h2:decide (0<k)=false:=decide_eq_false hk0
 clear hl hlast
 go_wp2
 go_quiet (fail)
 clear p0 p1 h1 h2
 go_upto_region 3 with fail
 have bq:Below w0 w0 (w0.drewN nq):=C8 (Below.refl _ _)
 generalize w0.drewN nq=w1 at bq ⊢
 have P1:=P0.keep bq
 have HO:=HO0.keep bq
 have O1:=O0.keep bq
 have z1:=bq.size
 have c1:=BN bq c0
 have f1:w1.frozen? ⟨ob,0,none⟩=false:=aI
 have B1:Below w w w1:=b5.trans (bq.mono b5.size)
 have hob1:ob<w1.heap.size:=AA
 obtain ⟨q0,q1,q2⟩:=P1.c3
 have ql:=P1.lt
 clear HO0 O0 c0 f0 P0 bq
 go_wp2_with (at_builtin;refine MT Qi Tryz.underlying156 rfl dC dC Qc rfl _ _ rfl B _ pre us rfl (HO.keep (Ae (Below.refl _ _) _)) _ ⟨k,ep,bd⟩ (.slice a bd.length c) rfl rfl (BC _ _ _ rfl) (by have:=HL.out;omega) aJ dC (AC.alloc O1 _) ⟨KD,hep⟩ (fun _ _=>trivial) hun ?_)
 intro v6 w6 O6 b6 g6
 obtain ⟨R,hR⟩:∃ l,l=pre ++ [(⟨k,ep,bd⟩:Sc)]:=⟨_,rfl⟩
 rw [← hR] at O6
 obtain ⟨a6,c6,rfl,-,-⟩:=O6.form
 have b16:Below B w1 w6:=((Ae (Below.refl w1 w1) _).mono (by have:=B1.size;omega)).trans b6
 have c6':w6.cell? ⟨ob,0,none⟩=some (.slice ao pre.length co):=aK
 have f6':w6.frozen? ⟨ob,0,none⟩=false:=aL
 have g16:=Ex.of_grown g6
 have x16:Ex ((Value.slice ao pre.length co).ownBlock.toList) w w6:=((Ex.of_below B1 _).trans (Ex.of_below (Ae (Below.refl w1 w1) _) _)).trans g16
 have hFb:∀ b∈(Value.slice ao pre.length co).ownBlock.toList,B≤b:=fun b hb=>(HO.lt b aM).1
 have hob6:ob<w6.heap.size:=by have:=b16.size;omega
 have HO6:=lH O6
 have HR:=lH hR
 have HX:=lH x16
 have HF:=lH hFb
 have hsz:∀ v,(w6.setCell ⟨ob,0,none⟩ v).heap.size=w6.heap.size:=fun v=>AP
 clear hR O6 g6 b6 x16 g16 hFb HO O1 P1 q0 q1 q2 c1 f1
 go_wp2
 go_ret
 refine ⟨rfl,_,Vo c6',aN,?_,(ob :: (Value.slice ao pre.length co).ownBlock.toList),?_,?_⟩
 ·exact aO
 ·exact aP
 intro b hb
 rcases List.mem_cons.1 hb with h | h
 ·exact .inl h
 exact .inr (HF.out b h)
section
def Wk (F:List Nat) (x:Value) (w:World) (g B:Nat) (b:Bk) (ls:List Ln) (code:Int):Prop:=∃ F0 G y z l,F=F0 ++ G∧Bx w g [b.tick,b.next,b.wallet,x,y,z,l,code]∧Ai F0 w B x y z b∧Es G w B l ls∧F.Nodup∧g∉F∧B≤w.heap.size
def Wf (g:Nat) (F F':List Nat) (w w':World):Prop:=Ex (g :: F) w w'∧∀ k∈F',k∈F∨w.heap.size≤k
section
variable {F F' F2:List Nat} {x:Value} {w w' w2:World} {g B:Nat} {b:Bk} {ls:List Ln} {kd:Int}
theorem Wf.refl (g:Nat) (F:List Nat) (w:World):Wf g F F w w:=⟨Ex.refl _ _,fun k h=>Or.inl h⟩
theorem Wf.of_below (h:Below w w w'):Wf g F F w w':=⟨Ex.of_below h _,fun k h=>Or.inl h⟩
theorem Wf.trans (h1:Wf g F F' w w') (h2:Wf g F' F2 w' w2):Wf g F F2 w w2 :=
 ⟨⟨h2.1.os.trans h1.1.os,h2.1.tape.trans h1.1.tape,h2.1.output.trans h1.1.output,Nat.le_trans h1.1.size h2.1.size,fun k hk hn=>(h2.1.block k (Nat.lt_of_lt_of_le hk h1.1.size) (fun hm=>by
  rcases List.mem_cons.1 hm with e | hm
  ·exact hn (e ▸ List.mem_cons_self ..)
  rcases h1.2 k hm with h | h
  ·exact hn (List.mem_cons_of_mem _ h)
  omega)).trans (h1.1.block k hk hn)⟩,fun k hk=>by
  rcases h2.2 k hk with h | h
  ·exact h1.2 k h
  exact Or.inr (Nat.le_trans h1.1.size h)⟩
theorem Wf.box {n:Nat} {L:List Value} (h:Wf g F F' w w') (P:Bx w n L) (hn:n∉g :: F):Bx w' n L∧n∉g :: F':=by
 refine ⟨P.ex h.1 hn,fun hm => ?_⟩;have:=P.lt
 rcases List.mem_cons.1 hm with e | hm
 ·exact hn (e ▸ List.mem_cons_self ..)
 rcases h.2 n hm with h | h
 ·exact hn (List.mem_cons_of_mem _ h)
 omega
theorem Wk.gF (h:Wk F x w g B b ls kd):g∉F:=by
 obtain ⟨F0,G,y,z,l,rfl,P,K,O,hd,h1,h2⟩:=h;exact h1
theorem Wk.lt (h:Wk F x w g B b ls kd):g<w.heap.size∧B≤w.heap.size∧∀ k∈F,B≤k∧k<w.heap.size:=by
 obtain ⟨F0,G,y,z,l,rfl,P,K,O,hd,h1,h2⟩:=h;refine ⟨P.lt,h2,fun k hk => ?_⟩;rcases List.mem_append.1 hk with hk | hk
 ·exact K.lt k hk
 exact O.lt k hk
theorem Wk.fresh (h:Wk F x w g B b ls kd):w.heap.size∉g :: F:=fun hm=>by
 obtain ⟨h1,h2,h3⟩:=h.lt;rcases List.mem_cons.1 hm with e | hm
 ·omega
 have:=(h3 _ hm).2;omega
theorem Wk.keep (h:Wk F x w g B b ls kd) (hb:Below w w w'):Wk F x w' g B b ls kd:=by
 obtain ⟨F0,G,y,z,l,rfl,P,K,O,hd,h1,h2⟩:=h;exact ⟨F0,G,y,z,l,rfl,P.keep hb,K.keep hb,O.keep hb,hd,h1,Nat.le_trans h2 hb.size⟩
theorem Wk.below {n:Nat} (h:Wk F x w g B b ls kd) (hw:Wf g F F' w w') (hg:n≤g) (hB:n≤B):Below n w w':=by
 obtain ⟨h1,h2,h3⟩:=h.lt;refine hw.1.below (fun k hk => ?_) oM;rcases List.mem_cons.1 hk with e | hk
 ·omega
 have:=(h3 _ hk).1;omega
theorem Wk.num (h:Wk F x w g B b ls kd) (j:Nat) (n:Int) (hj:j<8) (b':Bk) (kd':Int) (hb:∀ x y z l,([b.tick,b.next,b.wallet,x,y,z,l,kd]:List Value).set j n = [.int .i64 b'.tick, .int .i64 b'.next, .int .i64 b'.wallet,x,y,z,l, .int .i64 kd']) (h0:b'.chans=b.chans∧b'.htlcs=b.htlcs∧b'.circles=b.circles) (hi:AE b.tick∧AE b.next∧AE b.wallet→AE b'.tick∧AE b'.next∧AE b'.wallet):Wk F x (w.setCell ⟨g,j,none⟩ n) g B b' ls kd'∧Wf g F F w (w.setCell ⟨g,j,none⟩ n):=by
 have hl:=h.lt;obtain ⟨F0,G,y,z,l,rfl,P,K,O,hd,h1,h2⟩:=h;have ex:Ex [g] w (w.setCell ⟨g,j,none⟩ n):=Ex.setCell (Ex.refl _ _) sM _;refine ⟨⟨F0,G,y,z,l,rfl,?_,?_,O.kept ex (fun k hk hm=>h1 (by simp at hm;rw [← hm];exact List.mem_append_right _ hk)),hd,h1,?_⟩,⟨ex.more (fun k hk => ?_),fun k hk=>Or.inl hk⟩⟩
 ·rw [← hb x y z l];exact P.set1 j _ (by exact hj)
 ·obtain ⟨G0,G1,G2,⟨a0,a1,a2⟩,e,hn,hint⟩:=K.kept ex (fun k hk hm=>h1 ak);exact ⟨G0,G1,G2,⟨by rw [h0.1];exact a0,by rw [h0.2.1];exact a1,by rw [h0.2.2];exact a2⟩,e,hn,hi hint⟩
 ·simpa using h2
 simp at hk;simp [hk]
theorem Wk.setCode (h:Wk F x w g B b ls kd) (k:Int):Wk F x (w.setCell ⟨g,7,none⟩ k) g B b ls k∧Wf g F F w (w.setCell ⟨g,7,none⟩ k):=h.num 7 k oM b k (fun _ _ _ _=>rfl) ⟨rfl,rfl,rfl⟩ id
theorem Wk.wallet (h:Wk F x w g B b ls kd) (n:Int) (hn:AE n):Wk F x (w.setCell ⟨g,2,none⟩ n) g B {b with wallet:=n} ls kd∧Wf g F F w (w.setCell ⟨g,2,none⟩ n):=h.num 2 n oM _ _ (fun _ _ _ _=>rfl) ⟨rfl,rfl,rfl⟩ (fun e=>⟨e.1,e.2.1,hn⟩)
theorem Wk.tick (h:Wk F x w g B b ls kd) (n:Int) (hn:AE n):Wk F x (w.setCell ⟨g,0,none⟩ n) g B {b with tick:=n} ls kd∧Wf g F F w (w.setCell ⟨g,0,none⟩ n):=h.num 0 n oM _ _ (fun _ _ _ _=>rfl) ⟨rfl,rfl,rfl⟩ (fun e=>⟨hn,e.2.1,e.2.2⟩)
theorem Wk.next (h:Wk F x w g B b ls kd) (n:Int) (hn:AE n):Wk F x (w.setCell ⟨g,1,none⟩ n) g B {b with next:=n} ls kd∧Wf g F F w (w.setCell ⟨g,1,none⟩ n):=h.num 1 n oM _ _ (fun _ _ _ _=>rfl) ⟨rfl,rfl,rfl⟩ (fun e=>⟨e.1,hn,e.2.2⟩)
theorem Wk.cells (h:Wk F x w g B b ls kd):∃ y z l,Bx w g [b.tick,b.next,b.wallet,x,y,z,l,kd]∧BkV w w x y z b∧BE w w l ls:=by
 obtain ⟨F0,G,y,z,l,rfl,P,K,O,hd,h1,h2⟩:=h;exact ⟨y,z,l,P,K.vw,O.vw (fun _=>rfl)⟩
end
theorem D5 (F:List Nat) (x:Value) (g B:Nat) (b:Bk) (ls:List Ln) (k c:Int) (q:Bool) (w:World) (H:Wk F x w g B b ls k):Calls Tryz.prog 260 #[.pointer (some ⟨g,0,none⟩),q,c] w fun e w'=>e = .returned (.tuple #[])∧Wk F x w' g B b ls (AG q c k)∧Wf g F F w w':=by
 have A4N:=trivial;exact aw
theorem I4 (F:List Nat) (x:Value) (g B:Nat) (b:Bk) (ls:List Ln) (k c:Int) (q:Bool) (w:World) (H:Wk F x w g B b ls k) (hc:c≠0):Calls Tryz.prog 149 #[.pointer (some ⟨g,0,none⟩),q,c] w fun e w'=>e = .returned (.bool (AG q c k != 0))∧Wk F x w' g B b ls (AG q c k)∧Wf g F F w w':=by
 exact aw
end
section
def QY (ls:List Ln) (x:Ln):Prop:=ls.length≤100000∧(∀ y∈ls,-2305843009213693952≤y.amt∧y.amt≤2305843009213693952)∧(-2305843009213693952≤x.amt∧x.amt≤2305843009213693952)∧x.ok∧Au ls [x]=true∧∀ y∈At ls x,y.ok
def Dq (ls:List Ln) (x:Ln):List Ln:=if x.amt=0 then ls else At ls x
section
variable {F F' F2:List Nat} {x:Value} {w w' w2:World} {g B:Nat} {b:Bk} {ls:List Ln} {kd:Int}
theorem Wk.lines (h:Wk F x w g B b ls kd) {l':Value} {ls':List Ln} (hw:Below w w w') (hr:AC Ln.enc 3 178 w' w l' ls') (hok:∀ y∈ls',y.ok):∃ F',Wk F' x (w'.setCell ⟨g,6,none⟩ l') g B b ls' kd∧Wf g F F' w (w'.setCell ⟨g,6,none⟩ l'):=by
 have hl:=h.lt;obtain ⟨F0,G,y,z,l,rfl,P,K,O,hd,h1,h2⟩:=h;have hsz:=hw.size;obtain ⟨G',r⟩:∃ G',Es G' w' w l' ls':=⟨_,RwO.mk' hr hok⟩;have ex:Ex [g] w' (w'.setCell ⟨g,6,none⟩ l'):=Ex.setCell (Ex.refl _ _) sM _;have ex0:Ex (g :: (F0 ++ G)) w (w'.setCell ⟨g,6,none⟩ l'):=((Ex.of_below hw _).trans (ex.more (fun k hk=>bB)))
 refine ⟨F0 ++ G',⟨F0,G',y,z,l',rfl,(P.keep hw).set1 6 _ AF,(K.keep hw).kept ex (fun k hk hm => ?_),(r.kept ex (fun k hk hm => ?_)).le h2,JK K.nd r.nd (n:=w.heap.size) (fun k hk=>(K.lt k hk).2) (fun k hk=>(r.lt k hk).1),(fun hm=>by
  rcases List.mem_append.1 hm with hm | hm
  ·exact h1 (List.mem_append_left _ hm)
  have:=(r.lt g hm).1;have:=P.lt;omega),?_⟩,⟨ex0,fun k hk => ?_⟩⟩
 ·exact h1 ak
 ·have:=(r.lt k hk).1
  have:=P.lt
  simp at hm;omega
 ·have:(w'.setCell ⟨g,6,none⟩ l').heap.size=w'.heap.size:=AP
  omega
 rcases List.mem_append.1 hk with hk | hk
 ·exact Or.inl (List.mem_append_left _ hk)
 exact Or.inr (r.lt k hk).1
end
theorem DJ (F:List Nat) (x:Value) (g B:Nat) (b:Bk) (ls:List Ln) (code kd ch n:Int) (w:World) (H:Wk F x w g B b ls code) (hg:n≠0→QY ls ⟨kd,ch,n⟩):Calls Tryz.prog 171 #[.pointer (some ⟨g,0,none⟩),kd,ch,n] w fun e w'=>e = .returned (.tuple #[])∧∃ F',Wk F' x w' g B b (Dq ls ⟨kd,ch,n⟩) code∧Wf g F F' w w':=by
 by_cases h0:n=0
 ·have e0:(n != 0)=false:=A8;have hi:Hid ((Dq ls ⟨kd,ch,n⟩)=ls):=if_pos h0;clear hg h0;go_enter Tryz.func171,Tryz.ntmps171
  exact bC
 have e0:(n != 0)=true:=A8;have hi:Hid ((Dq ls ⟨kd,ch,n⟩)=At ls ⟨kd,ch,n⟩):=if_neg h0;have A4O:=trivial;exact bE
theorem DK (F:List Nat) (x:Value) (g B:Nat) (b:Bk) (ls:List Ln) (code kd ch n:Int) (w:World) (H:Wk F x w g B b ls code) (hg:n≠0→QY ls ⟨kd,ch,n⟩):Calls Tryz.prog 151 #[.pointer (some ⟨g,0,none⟩),kd,ch,n] w fun e w'=>e = .returned (.tuple #[])∧∃ F',Wk F' x w' g B b (Dq ls ⟨kd,ch,n⟩) code∧Wf g F F' w w':=by
 by_cases h0:n=0
 ·have e0:(n != 0)=false:=A8;have hi:Hid (Dq ls ⟨kd,ch,n⟩=ls):=if_pos h0;clear hg h0;go_enter Tryz.func151,Tryz.ntmps151
  exact bC
 have e0:(n != 0)=true:=A8;have hi:Hid (Dq ls ⟨kd,ch,n⟩=At ls ⟨kd,ch,n⟩):=if_neg h0;exact bE
end
theorem ui (F:List Nat) (cx:Value) (g B:Nat) (b:Bk) (ls:List Ln) (cd:Int) (i0 i1 i2 i3 i4 i5 i6 o0 o1 o2 o3 o4 o5 o6 kd ky ch tt amt fe:Int) (ys:Bool) (w:World) (H:Wk F cx w g B b ls cd) (hB:∀ h∈b.htlcs,0≤h.aout∧h.aout≤1125899906842624) (h60:b.htlcs.length≤60) (hI:AE o1∧AE amt):Calls Tryz.prog 265 #[.pointer (some ⟨g,0,none⟩), .agg #[i0,i1,i2,i3,i4,i5,i6], .agg #[o0,o1,o2,o3,o4,o5,o6], .agg #[kd,ky,ch,tt,amt,fe,ys]] w fun e w'=>e = .returned (ED b ⟨i0,i1,i2,i3,i4,i5,i6⟩ ⟨o0,o1,o2,o3,o4,o5,o6⟩ tt amt ys)∧Below w w w':=by
 obtain ⟨y,z,l,P,V,-⟩:=H.cells;obtain ⟨ay,m,cy,rfl,hm,-⟩:=VS.form V.htlcs;have HM:=lH hm;have hmB:=VS.lenB V.htlcs;clear hm;go_enter Tryz.func265,Tryz.ntmps265
 go_upto_region 1 with fail
 refine cL fun w0 I0 b0 hz => ?_;have O0:=bN w0 [o0,o1,o2,o3,o4,o5,o6] 182;have b1:=bA w0 [o0,o1,o2,o3,o4,o5,o6] 182;have hz1:(w0.alloc (.cells #[o0,o1,o2,o3,o4,o5,o6] 182)).heap.size=w.heap.size+1+1:=Ek;generalize w0.alloc (.cells #[o0,o1,o2,o3,o4,o5,o6] 182)=w1 at O0 b1 hz1 ⊢;refine cW fun w2 E0 b2 => ?_;have B2:=AD b2 (AD b1 b0);have P2:=((P.keep b0).keep b1).keep b2;have I2:=(I0.keep b1).keep b2;have O2:=O0.keep b2;rw [hz1] at E0;rw [hz] at O2;have V2:=V.keep B2;clear P b0 b1 b2 hz hz1 I0 O0;have p4:=P2.cell 4 _ rfl;go_wp2;go_loopw [9,10,11,12,14,21] (fun f a sf sa _ i wr=>∃ (k:Nat) (s1 s2 s3 s4:Int),k≤m∧i=k∧f=s1∧a=s2∧sf=s3∧sa=s4∧Hid (Bp (b.htlcs.take k) tt=(s1,s2,s3,s4))∧Below w2 w2 wr) (fun _ _ _ _ _ i _=>m - (intOf i).toNat)
 case atStart=>exact ⟨0,0,0,0,0,Nat.zero_le _,rfl,rfl,rfl,rfl,rfl,rfl,Below.refl _ _⟩
 case round =>
  obtain ⟨k,s1,s2,s3,s4,hk,rfl,rfl,rfl,rfl,rfl,hs,hB2⟩:=hrel;have hBw:=AD hB2 B2;have hbd:=Qj b.htlcs tt hB k EL;rw [hs.out] at hbd;dsimp only at hbd;have hm60:m≤60:=EL;have EX:=E0.keep hB2;have OX:=O2.keep hB2;by_cases hlt:k<m
  ·exact bU
  have hr:Bp b.htlcs tt=(s1,s2,s3,s4):=bV;have x1:=OX.cell 1 _ rfl;have x6:=(I2.keep hB2).cell 6 _ rfl;have y4:=EX.cell 4 _ rfl;have y6:=EX.cell 6 _ rfl;obtain ⟨q,hq⟩:∃ q,q=J3 i6 ys:=⟨_,rfl⟩;have ST:=fun w=>A0U i6 ys w;simp only [← hq] at ST;have AL:=fun w=>A2T o1 s1 s2 s3 s4 amt q w ⟨hI.1,uI,uI,uI,uI,hI.2⟩;obtain ⟨r,hrr⟩:∃ r,r=Cz o1 s1 s2 s3 s4 amt q:=⟨_,rfl⟩;simp only [← hrr] at AL;have hres:Hid (ED b ⟨i0,i1,i2,i3,i4,i5,i6⟩ ⟨o0,o1,o2,o3,o4,o5,o6⟩ tt amt ys=r):=by unfold Hid ED;rw [hr,hrr,hq]
  clear hr hq hrr hs hbd;go_upto_region 12 with fail
  have x1g:=fun g:Grew wr=>g.cell x1;have x6g:=fun g:Grew wr=>g.cell x6;have y4g:=fun g:Grew wr=>g.cell y4;have y6g:=fun g:Grew wr=>g.cell y6;refine ET kR kR ?_;repeat (go_big_quiet_step (first | (go_at_call 310;with_reducible exact Calls.grew_of_same (ST _)) | (go_at_call 309;with_reducible exact Calls.grew_of_same (AL _))))
  have A4l:=trivial;exact El
end Go.Proofs.YtahefgkdbecemaaGreat
