/- The walks and the laws they lean on. -/
import Derived.Test.YtahefgkdbecemaaGreatQ20
import Derived.Test.YtahefgkdbecemaaGreatQ13
namespace Go.Proofs.YtahefgkdbecemaaGreat
open Go.RowKit
set_option linter.unusedVariables false
set_option linter.unusedSimpArgs false
set_option maxRecDepth 100000
set_option maxHeartbeats 12800000
def Hy (pre:List Sc):Int:=match pre.getLast? with
 | none=>0
 | some s=>s.epoch
theorem A0g (pre:List Sc) (s:Sc):Hy (pre ++ [s])=s.epoch:=by unfold Hy;rw [List.getLast?_concat]
theorem YI {pre:List Sc} {k:Nat} (hl:pre.length=k) (h0:0<k):∃ s,pre[k - 1]? = some s∧Hy pre=s.epoch:=by
 have h1:pre.getLast? = pre[k - 1]? := by rw [List.getLast?_eq_getElem?,hl]
 have h2:pre[k - 1]? = some pre[k - 1]:=List.getElem?_eq_getElem oM;exact ⟨_,h2,by unfold Hy;rw [h1,h2]⟩
theorem wm {pre:List Sc} (hl:pre.length=0):Hy pre=0:=by
 have:pre = []:=List.eq_nil_of_length_eq_zero hl
 subst this;rfl
theorem tM (v0 v1:Value) (d:Dk) (ob:Nat) (w:World) (V:DkV w ob v0 v1 d) (hok0:BO d=true) (hob:w.cell? ⟨ob,0,none⟩=some (.slice none 0 0)) (hfz:w.frozen? ⟨ob,0,none⟩=false) :
 Calls Tryz.prog 223 #[.agg #[v0,v1], .func (.func 224) #[] #[.pointer (some ⟨ob,0,none⟩)]] w fun e w'=>e = .returned (.tuple #[])∧∃ out us,w'.cell? ⟨ob,0,none⟩=some out∧ON Dp w' w out (BQ d) us∧∃ F,Ex F w w'∧∀ b∈F,b=ob∨w.heap.size≤b:=by
 obtain ⟨a0,n,cp0,rfl,hn1,-,hn,hmx,-⟩:=V.cells.at_
 obtain ⟨a1,m,cp1,rfl,hm1,-,hm,-,-⟩:=V.dirty.at_
 have HN:=lH hn
 obtain ⟨⟨hk1,hk2⟩,hk3,-,-⟩:=NC hok0
 rw [hn] at hk1 hk2
 have HOK:=lH hok0
 have hr:=lH (Wj hok0)
 have hobl:ob<w.heap.size:=Lib.lt_of_cell hob
 clear hn hm hk3 hok0
 go_enter Tryz.func223,Tryz.ntmps223
 go_upto_region 1 with fail
 refine cW fun w0 P0 B0 => ?_
 have P0l:=P0.lt
 have c0:=BN B0 hob
 have f0:w0.frozen? ⟨ob,0,none⟩=false:=by rw [JB B0 hobl];exact hfz
 have V0:=V.keepB B0 oM
 have p0:=P0.cell 0 _ rfl
 go_wp2
 go_loopw [4,5,6,10] (fun _ _ _ i wr=>∃ (k:Nat) (pre:List Sc) (us:List Value) (out:Value) (F:List Nat),i=k∧k≤n∧wr.cell? ⟨ob,0,none⟩=some out∧wr.frozen? ⟨ob,0,none⟩=false∧ON Dp wr w0 out pre us∧pre.length=k∧Hid (BQ d=pre ++ DM d k (Hy pre) (n - k))∧Ex F w0 wr∧(∀ b∈F,b=ob∨w0.heap.size≤b)) (fun _ _ _ i _=>n - (intOf i).toNat)
 case atStart=>exact ⟨0,[],[],_,[],rfl,Nat.zero_le _,c0,f0,ON.nil _ _,rfl,by unfold Hid;rw [hr.out,HN.out];rfl,Ex.refl _ _,AP⟩
 case round =>
  obtain ⟨k,pre,us,out,F,rfl,hk,hc,hf,ho,hpl,hgo,hx,hF⟩:=hrel;have HF:=lH hF;have HX:=lH hx;have HPL:=lH hpl;have hbF:w.heap.size∉F:=fun hm=>by rcases hF _ hm with h | h<;>omega
  have P1:=P0.ex hx hbF;have z01:=hx.size;have V1:DkV wr ob (.slice a0 n cp0) (.slice a1 m cp1) d:=V0.ex hx (fun b hb=>by rcases hF b hb with h | h<;>omega);obtain ⟨p0,p1⟩:=P1.c2;have P1l:=P1.lt;clear hF hx hpl c0 f0;by_cases hlt:k<n;rotate_left
  ·exact aQ
  have hrl:=Uo HOK.out (i:=k) Nf;have HRL:=lH hrl;clear hrl;go_wp2_with fail
  refine (A1z _ _ d k _ (V1.mono oM) HOK.out Nf).mono ?_;rintro e w3 ⟨⟨v3,rfl,O3⟩,b3⟩;obtain ⟨a3,c3,rfl,-⟩:=AK.form O3;have ho3:=ho.keep b3;have z13:=b3.size;have P3:=P1.keep b3;have c3':=BN b3 hc;have f3':w3.frozen? ⟨ob,0,none⟩=false:=by rw [JB b3 oM];exact hf
  have hl3:=ho3.lt;have x3:Ex F w0 w3:=HX.out.trans (Ex.of_below b3 F);have HX3:=lH x3;clear p0 p1 P1 ho hc hf b3 V1 x3;go_wp2_with fail
  refine (xl _ (DG d k) _ O3.vs HRL.out).mono ?_;rintro e w4 ⟨hq4,b4⟩;have ho4:=ho3.keep b4;have z34:=b4.size;have P4:=P3.keep b4;have c4':=BN b4 c3';have f4':w4.frozen? ⟨ob,0,none⟩=false:=by rw [JB b4 oM];exact f3'
  have x4:Ex F w0 w4:=HX3.out.trans (Ex.of_below b4 F);have HX4:=lH x4;clear O3 ho3 b4 P3 c3' f3' x4
  have fin:∀ w5,Below w4 w4 w5→Hid (BQ d=pre)→w5.cell? ⟨ob,0,none⟩=some out∧ON Dp w5 w out (BQ d) us∧∃ F,Ex F w w5∧∀ b∈F,b=ob∨w.heap.size≤b:=fun w5 b5 he=>by
   rw [he.out];exact ⟨BN b5 c4',(ho4.keep b5).le oM,F,(Ex.of_below B0 F).trans (HX4.out.trans (Ex.of_below b5 F)),fun b hb=>by rcases HF.out b hb with h | h<;>omega⟩
  have FIN:=lH fin;clear fin;rcases hq4 with ⟨s,v4,hs,rfl,O4⟩ | ⟨hs,rfl⟩
  ·exact aR
  exact aT
theorem Vx (v0 v1:Value) (d:Dk) (w:World) (V:DkV w w v0 v1 d):Calls Tryz.prog 125 #[.agg #[v0,v1]] w fun e w'=>(∃ v' us,e = .returned (.tuple #[v', .int .i64 (BQ d).length])∧ON Dp w' w v' (BQ d) us)∧Below w w w':=by
 have A3x:=trivial;exact Nd
theorem tU {l:List Sc} {k:Nat} {x:Sc} (ht:l.take (k+1)=l.take k ++ [x]):Ee (l.take (k+1))=Ee (l.take k) ++ (DP x.body).toList:=by
 unfold Ee;rw [ht,List.filterMap_append]
 congr 1
theorem tS {l:List UInt8} {e:Ev} (h:DP l=some e):e.good=true:=by
 unfold DP at h;split at h
 ·split at h
  ·rename_i h2;obtain rfl:=Option.some.inj h;exact h2.1
  cases h
 cases h
theorem A1T {e:Ev} (h:e.good=true):e.ok:=by
 have:=Xm h
 refine ⟨?_,?_,?_,?_,?_,?_,?_⟩<;>first | trivial | (unfold AE;omega)
theorem LJ:∀ x:Ev,∀ u∈x.enc,u.oneCell'=true:=fun x u hu=>by
 simp only [Ev.enc,List.mem_cons,List.not_mem_nil,or_false] at hu;exact RR
theorem Yd {α β:Type} {K:Kd α β} {E:TypeId} {w:World} {B B' s n:Nat} {v r:Value} {cs us:List Value} {xs:List α} (hE:E≠K.E) (hEB:E≠K.EB) (h:w.ownsRow B E s v n cs) (hR:ON K w B' r xs us):∀ b∈v.ownBlock.toList,b∉A5 (r :: us):=fun b hb hm=>by
 obtain ⟨c1,h1⟩:=Ge h b hb;rw [EA] at hm;rcases List.mem_append.1 hm with hm | hm
 ·obtain ⟨c2,h2⟩:=Ge hR.row b hm;rw [h1] at h2
  injection h2 with h2
  injection h2 with _ h2
  exact hE h2
 obtain ⟨z,hz,hpz⟩:=List.mem_filterMap.1 hm;obtain ⟨i,hi,hiz⟩:=List.getElem_of_mem hz;have h2:us[i]? = some z:=by rw [← hiz];exact List.getElem?_eq_getElem hi
 have hi2:i<xs.length:=by rw [← hR.len];exact hi
 obtain ⟨c2,h3⟩:=Ge (hR.inn i _ z (List.getElem?_eq_getElem hi2) h2) b (by rw [hpz];simp);rw [h1] at h3
 injection h3 with h3
 injection h3 with _ h3
 exact hEB h3
theorem A0a (l:List Sc):∀ e∈Ee l,e.ok:=fun e he=>by
 obtain ⟨s,-,hs⟩:=List.mem_filterMap.1 he;exact A1T (tS hs)
theorem WJ (l:List Sc):(Ee l).length≤l.length:=List.length_filterMap_le _ _
theorem U0 (d:Dk):∀ (f i:Nat) (last:Int),(∀ s∈DM d i last f,s.body.length≤100)∧(DM d i last f).length≤f
 | 0,i,last=>by rw [DM];simp
 | f+1,i,last=>by
  cases h:Ca (DG d i) with
  | none=>rw [XX h];simp
  | some s =>
   by_cases h2:s.seq=(i:Int)∧last≤s.epoch;rotate_left
   ·rw [QG h h2];simp
   rw [Qo h h2.1 h2.2];have ih:=U0 d f (i+1) s.epoch;refine ⟨fun x hx => ?_,by rw [List.length_cons];omega⟩;rcases List.mem_cons.1 hx with rfl | hx
   ·exact (XW h).2.2
   exact ih.1 x hx
theorem Wa (d:Dk):(∀ s∈BQ d,s.body.length≤100)∧(BQ d).length≤600:=by
 unfold BQ;split
 ·rename_i h;have h1:=U0 d d.cells.length 0 0;have h2:=(NC h).1.2;exact ⟨h1.1,AA⟩
 simp
theorem tu (d:Dk):(Av d).length≤600:=Nat.le_trans (WJ _) (Wa d).2
theorem zW (d:Dk):∀ e∈Av d,e.ok:=A0a _
theorem Xv (v0 v1:Value) (d:Dk) (w:World) (V:DkV w w v0 v1 d):Calls Tryz.prog 55 #[.agg #[v0,v1]] w fun e w'=>(∃ F u,e = .returned u∧GY F w' w u (Av d))∧Below w w w':=by
 have A3y:=trivial;exact Nd
theorem WZ (v0 v1:Value) (d:Dk) (w:World) (V:DkV w w v0 v1 d):Calls Tryz.prog 46 #[.agg #[v0,v1]] w fun e w'=>(∃ F u,e = .returned u∧GY F w' w u (Av d))∧Below w w w':=by
 exact Nd
theorem Qf {F:List Nat} {w:World} {B:Nat} {v:Value} {xs:List Ev} (h:GY F w B v xs):Bf w w v xs:=RwO.vw (fun _=>rfl) h
theorem VS.form' {α:Type} {enc:α→List Value} {sz:Nat} {ok:α→Prop} {w:World} {B n c:Nat} {a:Option Addr} {xs:List α} (h:VS enc sz ok w B (.slice a n c) xs):xs.length=n:=by
 obtain ⟨a',n',c',e,h1,-⟩:=VS.form h
 injection e with e1 e2 e3
 subst e2;exact h1
theorem VS.le' {α:Type} {enc:α→List Value} {sz:Nat} {ok:α→Prop} {w:World} {B n c:Nat} {a:Option Addr} {xs:List α} (h:VS enc sz ok w B (.slice a n c) xs):n≤c:=by
 obtain ⟨a',n',c',e,h1,-⟩:=h
 injection e with e1 e2 e3
 subst e2;subst e3;exact h1
theorem WD {t e:List Ev}:t <:+ e↔t.length≤e.length∧e.drop (e.length - t.length)=t:=by
 constructor
 ·rintro ⟨s,rfl⟩;refine ⟨AP,?_⟩;rw [List.length_append,Nat.add_sub_cancel,List.drop_left]
 rintro ⟨h,h2⟩
 exact ⟨e.take (e.length - t.length),by
  have:=List.take_append_drop (e.length - t.length) e
  rw [h2] at this
  exact this⟩
theorem XU (h:Hb):Bd h=true↔BO h.log.disk=true∧(0≤h.log.next∧h.log.next≤(h.log.disk.cells.length:Int))∧(1≤h.log.epoch∧h.log.epoch≤16000000)∧((BQ h.log.disk).length:Int)=h.log.next ∧
 (BB (Av h.log.disk)).ok=true∧(Ak (BB (Av h.log.disk)).book=true∧Ak h.book=true∧(BB (Av h.log.disk)).book=h.book)∧(BB (Av h.log.disk)).ledger=h.ledger∧(h.sent ++ h.wait) <:+ Av h.log.disk:=by
 unfold Bd
 simp only [Bool.and_eq_true,decide_eq_true_eq,and_assoc]
theorem Ew {h:Hb} (H:¬ (BO h.log.disk=true∧(0≤h.log.next∧h.log.next≤(h.log.disk.cells.length:Int))∧(1≤h.log.epoch∧h.log.epoch≤16000000)∧((BQ h.log.disk).length:Int)=h.log.next ∧
 (BB (Av h.log.disk)).ok=true∧(Ak (BB (Av h.log.disk)).book=true∧Ak h.book=true∧(BB (Av h.log.disk)).book=h.book)∧(BB (Av h.log.disk)).ledger=h.ledger∧(h.sent ++ h.wait) <:+ Av h.log.disk)):Bd h=false:=by
 rw [Bool.eq_false_iff]
 intro e
 exact H ((XU h).1 e)
theorem Mv {h:Hb} {rb:Bk} {rl:Lg} {dk ne nt:Nat} (H0:BO h.log.disk=true) (H1:0≤h.log.next∧h.log.next≤(h.log.disk.cells.length:Int)) (H2:1≤h.log.epoch∧h.log.epoch≤16000000) (H3:((BQ h.log.disk).length:Int)=h.log.next)
 (HR:(⟨rb,rl,true⟩:Rp)=BB (Av h.log.disk)) (HB:Ak rb=true∧Ak h.book=true∧rb=h.book) (HL:rl=h.ledger) (hne:(Av h.log.disk).length=ne) (hnt:nt=(h.sent ++ h.wait).length) (hle:nt≤ne) (hd:ne - dk=nt) (hdn:dk≤ne)
 {q:Bool} (hq:q=true↔(Av h.log.disk).drop dk=h.sent ++ h.wait):Bd h=q:=by
 have hdl:(Av h.log.disk).length - (h.sent ++ h.wait).length=dk:=AA
 rw [Bool.eq_iff_iff,XU,hq,← HR]
 constructor
 ·intro e;have:=(WD.1 e.2.2.2.2.2.2.2).2
  rwa [hdl] at this
 intro e
 exact ⟨H0,H1,H2,H3,rfl,HB,HL,WD.2 ⟨AA,by rw [hdl];exact e⟩⟩
theorem M9 {w:Wd} (h:w.up=true):DY w=true↔Bd w.hub=true∧w.disk=Dk.zero∧Av w.hub.log.disk=w.took:=by
 unfold DY;rw [if_pos h];simp only [Bool.and_eq_true,decide_eq_true_eq,and_assoc]
theorem MK {w:Wd} (h:w.up=false):DY w=true↔w.hub=Hb.zero∧BO w.disk=true∧w.disk.dirty = []:=by
 unfold DY;rw [if_neg EK];simp only [Bool.and_eq_true,decide_eq_true_eq,and_assoc]
theorem ww (v:Value) (xs:List Ev) (w:World) (V:Bf w w v xs) (hl:xs.length≤1048576):Calls Tryz.prog 85 #[v] w fun e w'=>(∃ F v',e = .returned v'∧GY F w' w v' xs)∧Below w w w':=by
 have hok:=V.oks;go_enter Tryz.func85,Tryz.ntmps85
 go_wp2_with (at_builtin;refine Da Js Tryz.underlying58 rfl dC dC (fun _=>rfl) LJ rfl _ _ rfl w (.slice none 0 0) [] rfl (AC.nil _ _) v xs rfl V sM oM (Nat.le_refl _) ?_)
 exact aU
end Go.Proofs.YtahefgkdbecemaaGreat
