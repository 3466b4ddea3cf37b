/- The walks and the laws they lean on. -/
import Derived.Test.YtahefgkdbecemaaGreatQ5
import Derived.Test.YtahefgkdbecemaaGreatQ6
import Derived.Test.YtahefgkdbecemaaGreatShelf
import Derived.Test.YtahefgkdbecemaaGreatRows
namespace Go.Proofs.YtahefgkdbecemaaGreat
open Go.RowKit
set_option linter.unusedVariables false
set_option linter.unusedSimpArgs false
set_option maxRecDepth 100000
set_option maxHeartbeats 12800000
section
theorem Ex.setCell {F:List Nat} {w w':World} {b o:Nat} (h:Ex F w w') (hb:b∈F) (v:Value):Ex F w (w'.setCell ⟨b,o,none⟩ v) :=
 ⟨h.os,h.tape,h.output,by simpa [World.setCell] using h.size,fun k hk hn=>((Below.heap_setCell _ _ _ _ (by intro e;exact hn (e ▸ hb))).trans (h.block k hk hn))⟩
theorem Ex.alloc {F:List Nat} {w w':World} (h:Ex F w w') (o:Obj):Ex F w (w'.alloc o):=h.trans (Ex.of_below (Ae (Below.refl _ _) o) F)
theorem Ex.drew {F:List Nat} {w w':World} (h:Ex F w w'):Ex F w w'.drew:=⟨h.os,h.tape,h.output,h.size,h.block⟩
theorem Ex.drewN {F:List Nat} {w w':World} {n:Nat} (h:Ex F w w'):Ex F w (w'.drewN n):=⟨h.os,h.tape,h.output,h.size,h.block⟩
section
variable {α:Type} {enc:α→List Value} {sz:Nat} {ok:α→Prop} {E:TypeId} {w w':World} {B B':Nat} {v:Value} {xs:List α}
def VS (enc:α→List Value) (sz:Nat) (ok:α→Prop) (w:World) (B:Nat) (v:Value) (xs:List α):Prop :=
 ∃ (a:Option Addr) (n c:Nat),v = .slice a n c∧n≤c∧(a=none→c=0)∧FS enc sz ok w B a n xs
theorem VS.keepB (h:VS enc sz ok w B v xs) (hb:Below B' w w') (hB:B≤B'):VS enc sz ok w' B v xs:=by
 obtain ⟨a,n,c,e,h1,h2,h3⟩:=h;exact ⟨a,n,c,e,h1,h2,h3.keepB hb hB⟩
theorem VS.mono (h:VS enc sz ok w B v xs) (hB:B≤B'):VS enc sz ok w B' v xs:=by
 obtain ⟨a,n,c,e,h1,h2,h3⟩:=h;exact ⟨a,n,c,e,h1,h2,h3.mono hB⟩
theorem VS.keep (h:VS enc sz ok w w v xs) (hb:Below w w w'):VS enc sz ok w' w' v xs:=(h.keepB hb (Nat.le_refl _)).mono hb.size
theorem VS.ex {F:List Nat} (h:VS enc sz ok w B v xs) (hx:Ex F w w') (hF:∀ k∈F,B≤k):VS enc sz ok w' B v xs:=by
 obtain ⟨a,n,c,e,h1,h2,h3⟩:=h;exact ⟨a,n,c,e,h1,h2,hx.fs h3 hF⟩
theorem VS.nil (w:World) (B:Nat):VS enc sz ok w B (.slice none 0 0) ([]:List α):=⟨none,0,0,rfl,Nat.le_refl _,fun _=>rfl,FS.nil w B none⟩
theorem VS.oks (h:VS enc sz ok w B v xs):∀ x∈xs,ok x:=by
 obtain ⟨a,n,c,e,h1,h2,h3⟩:=h;exact h3.2.2.1
theorem AC.vs (henc:∀ x,(enc x).length=sz) (h:AC enc sz E w B v xs) (hm:∀ x∈xs,ok x):VS enc sz ok w w v xs:=by
 have h2:=h.2;rcases h2 with ⟨hv,h0⟩ | ⟨g,c,cur,hv,hg,hh,hnc,hcm,hr⟩
 ·subst hv;obtain rfl:xs = []:=List.eq_nil_of_length_eq_zero h0;exact VS.nil _ _
 subst hv;have ho:OF enc sz ok E w B (some ⟨g,0,none⟩) xs.length c xs:=⟨h,rfl,hm⟩;exact ⟨_,_,_,rfl,hnc,fun e=>Gj,OF.fs henc ho⟩
theorem AC.kept {F:List Nat} (h:AC enc sz E w B v xs) (hx:Ex F w w') (hn:∀ k∈v.ownBlock.toList,k∉F):AC enc sz E w' B v xs:=Ff h hx hn
theorem AC.le (h:AC enc sz E w B v xs) (hB:B'≤B):AC enc sz E w B' v xs:=M3 h hB
theorem AC.blk (h:AC enc sz E w B v xs):∀ k∈v.ownBlock.toList,B≤k∧k<w.heap.size:=Cj h
theorem AC.drewN (h:AC enc sz E w B v xs) (n:Nat):AC enc sz E (w.drewN n) B v xs:=h
theorem AC.drew (h:AC enc sz E w B v xs):AC enc sz E w.drew B v xs:=h
theorem Da {S:TypeId} {z:Value} {nb:Nat} (info:(Tryz.prog.info? E).map (fun i=>(i.zero,i.size,i.bytes))=some (some z,sz,nb)) (hS:Tryz.prog.underlying S=some (.slice E)) (hzs:z.cells.size=sz) (hpos:0<sz) (hnb:nb≤64)
 (henc:∀ x,(enc x).length=sz) (hone:∀ x,∀ u∈enc x,u.oneCell'=true) {ops:Array Oper} {rest:List Oper} {o:Oper} {a:Act} {Q:Exit→Act→World→Prop} (hgd:o.guard=none) (s x:Operand)
 (ho:o.op = .call {callee := .builtin .append,args := #[s,x],argTypes := #[S,S]}) (B:Nat) (v:Value) (xs:List α) (hs:a.eval s=v) (hown:AC enc sz E w B v xs)
 (u:Value) (ys:List α) (hx:a.eval x=u) (hy:VS enc sz ok w w u ys) (hlen:xs.length≤1099511627) (hlen2:ys.length≤1099511627) (hB:B≤w.heap.size)
 (K:∀ v' w',AC enc sz E w' B v' (xs ++ ys)→Below B w w'→w.grownBy w' v.ownBlock→wpList Tryz.prog ops Q rest (a.put o.dst v') w'):wpList Tryz.prog ops Q (o :: rest) a w:=by
 obtain ⟨i0,hi,hz0,hz1,hz2⟩:=info_parts info
 obtain ⟨sa,sl,sc,rfl,h1,h2,hf⟩:=hy
 have hyl:=hf.1
 cases sa with
 | none =>
  have A2Y:=trivial;exact Yu
 | some ad =>
  refine wpList_append_own w hgd s x S ho B E i0 z sz nb hS hi hz0 hz1 hz2 hzs hpos v xs.length (xs.flatMap enc) hs hown ad sl sc (ys.flatMap enc) hx (by rw [DN henc,hyl]) ?_ ?_ ?_ ?_ hB ?_
  ·exact Yv
  ·exact Yw
  ·exact J7
  ·exact Yx
  intro v' w' h1 h2 _;refine K v' w' ?_ (I9 hown h2 hB) h2;unfold AC;simpa [hyl] using h1
end
section
variable {α β:Type} {K:Kd α β} {w w':World} {B B':Nat} {v:Value} {xs:List α} {vs:List Value}
def VN (K:Kd α β) (w:World) (B:Nat) (v:Value) (xs:List α):Prop :=
 ∃ (a:Option Addr) (n c:Nat),v = .slice a n c∧n≤c∧(a=none→c=0)∧xs.length=n∧n≤maxLen∧(∀ x∈xs,K.ok x) ∧
  ∀ (i:Nat) (x:α),xs[i]? = some x→∃ b off u,a=some ⟨b,off,none⟩∧b<B∧VS K.encB K.szB K.okB w B u (K.inn x)∧∀ (j:Nat) (v:Value),(K.enc x u)[j]? = some v→w.cell? ⟨b,off+i*K.sz+j,none⟩=some v
theorem VN.keepB (h:VN K w B v xs) (hb:Below B' w w') (hB:B≤B'):VN K w' B v xs:=by
 have A2Z:=trivial;exact Yy
theorem VN.mono (h:VN K w B v xs) (hB:B≤B'):VN K w B' v xs:=by
 exact Yy
theorem VN.keep (h:VN K w w v xs) (hb:Below w w w'):VN K w' w' v xs:=(h.keepB hb (Nat.le_refl _)).mono hb.size
theorem VN.ex {F:List Nat} (h:VN K w B v xs) (hx:Ex F w w') (hF:∀ k∈F,B≤k):VN K w' B v xs:=by
 obtain ⟨a,n,c,e,h1,h2,h3,h4,h5,h6⟩:=h;refine ⟨a,n,c,e,h1,h2,h3,h4,h5,fun i x hi => ?_⟩;obtain ⟨b,off,u,e,hlt,hu,hc⟩:=h6 i x hi;exact ⟨b,off,u,e,hlt,hu.ex hx hF,fun j v hv=>hx.cell (hc j v hv) fun hm=>by have:=hF b hm;omega⟩
theorem VN.nil (w:World) (B:Nat):VN K w B (.slice none 0 0) ([]:List α):=⟨none,0,0,rfl,Nat.le_refl _,fun _=>rfl,rfl,FD,AP,fun i x h=>by simp at h⟩
theorem ON.vn (h:ON K w B v xs vs):VN K w w v xs:=by
 rcases h.row.2 with ⟨hv,h0⟩ | ⟨g,c,cur,hv,hg,hh,hnc,hcm,hsz,ht⟩
 ·subst hv;obtain rfl:xs = []:=List.eq_nil_of_length_eq_zero h0;exact VN.nil _ _
 subst hv;refine ⟨_,_,_,rfl,hnc,fun e=>Gj,rfl,Nat.le_trans hnc hcm,h.ok,fun i x hx => ?_⟩;have hi:i<xs.length:=(List.getElem?_eq_some_iff.1 hx).1;have hl:=h.len;obtain ⟨u,hu⟩:∃ u,vs[i]? = some u:=⟨_,List.getElem?_eq_getElem oM⟩;refine ⟨g,0,u,rfl,(h.row.lt g rfl).2,AC.vs K.lenB (h.inn i x u hx hu) (h.okB x (List.mem_of_getElem? hx)),fun j z hj => ?_⟩;have hget:=A02 K xs vs i x _ j z hx hu hj
 have hj2:i*K.sz+j<xs.length*K.sz:=by
  have:=(List.getElem?_eq_some_iff.1 hget).1
  rwa [Vj K xs vs hl] at this
 have:=h.row.cellAt (i*K.sz+j) hj2
 rw [hget] at this;simpa using this
end
theorem Wo {B g n cap sz:Nat} {E:TypeId}:∀ (us pre old rest:List Value) (o:Nat) (w:World),w.ownsRow B E sz (.slice (some ⟨g,0,none⟩) n cap) n (pre ++ (old ++ rest))→o=pre.length→old.length=us.length →
 (w.setCells g o us).ownsRow B E sz (.slice (some ⟨g,0,none⟩) n cap) n (pre ++ (us ++ rest))∧w.grownBy (w.setCells g o us) (some g)
 | [],pre,old,rest,o,w,h,_,hl=>by
  obtain rfl:old = []:=List.eq_nil_of_length_eq_zero (by simpa using hl);exact ⟨h,World.grownBy.refl _ _⟩
 | u :: us,pre,[],rest,o,w,h,_,hl=>by simp at hl
 | u :: us,pre,y :: old,rest,o,w,h,ho,hl=>by
  have s:=h.stored o u;rw [List.cons_append,BR pre (old ++ rest) y u o ho] at s;obtain ⟨r1,r2⟩:=Wo us (pre ++ [u]) old rest (o+1) (w.setCell ⟨g,o,none⟩ u) s.1 (by simp [ho]) (by simpa using hl);rw [World.setCells];exact ⟨by simpa using r1,yL s.2 r2⟩
section
variable {α β:Type} {K:Kd α β} {w w':World} {B B':Nat} {v:Value} {xs:List α} {vs:List Value}
structure NP (K:Kd α β) (w:World) (B:Nat) (g n cap:Nat) (xs:List α) (vs:List Value):Prop where
 len:vs.length=xs.length
 row:∃ rest:List Value,rest.length=(n - xs.length)*K.sz∧w.ownsRow B K.E K.sz (.slice (some ⟨g,0,none⟩) n cap) n (EF K xs vs ++ rest)
 ok:∀ x∈xs,K.ok x
 inn:∀ (i:Nat) (x:α) (u:Value),xs[i]? = some x→vs[i]? = some u→AC K.encB K.szB K.EB w B u (K.inn x)
 okB:∀ x∈xs,∀ y∈K.inn x,K.okB y
 nd:(A5 (.slice (some ⟨g,0,none⟩) n cap :: vs)).Nodup
variable {g n cap:Nat}
theorem NP.start {rest:List Value} (h:w.ownsRow B K.E K.sz (.slice (some ⟨g,0,none⟩) n cap) n rest):NP K w B g n cap ([]:List α) [] :=
 ⟨rfl,⟨rest,by simpa using h.1,by simpa [EF] using h⟩,AP,fun i x u hx=>IX,AP,by rw [EA];simp [A5,Value.ownBlock]⟩
theorem NP.lt (h:NP K w B g n cap xs vs):∀ k∈A5 (.slice (some ⟨g,0,none⟩) n cap :: vs),B≤k∧k<w.heap.size:=fun k hk=>by
 obtain ⟨rest,hr,hrow⟩:=h.row;rw [EA] at hk;rcases List.mem_append.1 hk with hk | hk
 ·exact Cj hrow k hk
 obtain ⟨u,hu,hb⟩:=List.mem_filterMap.1 hk;obtain ⟨i,hi,rfl⟩:=List.getElem_of_mem hu;have hl:=h.len;exact Cj (h.inn i _ _ (List.getElem?_eq_getElem oM) (List.getElem?_eq_getElem hi)) k (by rw [hb];simp)
theorem NP.kept {F:List Nat} (h:NP K w B g n cap xs vs) (hx:Ex F w w') (hn:∀ k∈A5 (.slice (some ⟨g,0,none⟩) n cap :: vs),k∉F):NP K w' B g n cap xs vs:=by
 obtain ⟨rest,hr,hrow⟩:=h.row;exact ⟨h.len,⟨rest,hr,Ff hrow hx (fun k hk=>hn k (Iw List.mem_cons_self hk))⟩,h.ok,fun i x u h1 h2=>Ff (h.inn i x u h1 h2) hx (fun k hk=>hn k (Iw (List.mem_cons_of_mem _ (List.mem_of_getElem? h2)) hk)),h.okB,h.nd⟩
theorem NP.keep (h:NP K w B g n cap xs vs) (hb:Below w w w'):NP K w' B g n cap xs vs:=h.kept (Ex.of_below hb []) (fun k _=>AP)
theorem NP.cells (h:NP K w B g n cap xs vs) (hk:xs.length<n):B≤g∧g<w.heap.size∧(∀ j,j<K.sz→∃ y,w.cell? ⟨g,xs.length*K.sz+j,none⟩=some y)∧∀ o,w.frozen? ⟨g,o,none⟩=false:=by
 obtain ⟨rest,hr,hrow⟩:=h.row;refine ⟨(hrow.lt g rfl).1,(hrow.lt g rfl).2,fun j hj => ?_,fun o=>hrow.frozenAt o⟩
 have h1:xs.length*K.sz+j<n*K.sz:=by
  have:(xs.length+1)*K.sz≤n*K.sz:=Nat.mul_le_mul_right _ hk
  rw [Nat.add_mul] at this;omega
 exact ⟨_,(hrow.cellAt _ h1).trans (List.getElem?_eq_getElem (by rw [hrow.1];exact h1))⟩
theorem NP.put {x:α} {u:Value} (h:NP K w B g n cap xs vs) (hk:xs.length<n) (hu:AC K.encB K.szB K.EB w B u (K.inn x)) (hok:K.ok x) (hkB:∀ y∈K.inn x,K.okB y) (hn:∀ k∈u.ownBlock.toList,k∉A5 (.slice (some ⟨g,0,none⟩) n cap :: vs)) :
 NP K (w.setCells g (xs.length*K.sz) (K.enc x u)) B g n cap (xs ++ [x]) (vs ++ [u])∧w.grownBy (w.setCells g (xs.length*K.sz) (K.enc x u)) (some g):=by
 obtain ⟨rest,hr,hrow⟩:=h.row
 have hrl:(EF K xs vs).length=xs.length*K.sz:=Vj K xs vs h.len
 have hsz:K.sz≤rest.length:=by
  have:1*K.sz≤(n - xs.length)*K.sz:=Nat.mul_le_mul_right _ oM
  omega
 have e:rest=rest.take K.sz ++ rest.drop K.sz:=(List.take_append_drop _ _).symm
 rw [e] at hrow
 obtain ⟨r1,r2⟩:=Wo (K.enc x u) (EF K xs vs) (rest.take K.sz) (rest.drop K.sz) (xs.length*K.sz) w hrow hrl.symm (by rw [K.len];simp;omega)
 have hx:=Ex.of_grown r2
 have hnd:=h.nd
 rw [EA] at hnd
 have hd:∀ k∈A5 vs,k≠g:=fun k hk e=>(List.nodup_append.1 hnd).2.2 g FF k hk e.symm
 have hug:∀ k∈u.ownBlock.toList,k≠g:=fun k hk e=>hn k hk (by rw [EA,e];simp [Value.ownBlock])
 refine ⟨⟨by simp [h.len],⟨rest.drop K.sz,?_,?_⟩,?_,?_,?_,?_⟩,r2⟩
 ·rw [List.length_drop,hr,List.length_append,List.length_singleton,← Nat.sub_sub,Nat.sub_mul _ 1,Nat.one_mul]
 ·rw [Xo K xs vs x u h.len,List.append_assoc];exact r1
 ·exact Yz
 ·intro i y z h1 h2;rcases Nat.lt_or_ge i xs.length with hlt | hge
  ·rw [List.getElem?_append_left hlt] at h1;rw [List.getElem?_append_left NT] at h2;exact Ff (h.inn i y z h1 h2) hx (fun k hk he=>by simp at he;exact hd k (Iw (List.mem_of_getElem? h2) hk) he)
  rw [List.getElem?_append_right hge] at h1;rw [List.getElem?_append_right NT] at h2
  have hi:i - xs.length=0:=by
   exact Y0
  rw [hi] at h1;rw [show i - vs.length=0 by rw [h.len];exact hi] at h2;simp at h1 h2;subst h1;subst h2;exact Ff hu hx (fun k hk he=>by simp at he;exact hug k hk he)
 ·exact Y3
 rw [← List.cons_append,Xs]
 have hu1:A5 [u]=u.ownBlock.toList:=by rw [EA];simp [A5]
 rw [hu1]
 refine List.nodup_append.2 ⟨h.nd,by cases u.ownBlock<;>simp,fun p hp q hq e => ?_⟩
 subst e
 exact hn p hq hp
theorem NP.done (h:NP K w B g n cap xs vs) (hn:xs.length=n):ON K w B (.slice (some ⟨g,0,none⟩) n cap) xs vs:=by
 obtain ⟨rest,hr,hrow⟩:=h.row;subst hn;obtain rfl:rest = []:=List.eq_nil_of_length_eq_zero Qt;rw [List.append_nil] at hrow;exact ⟨h.len,hrow,h.ok,h.inn,h.okB,h.nd⟩
theorem VN.at_ (h:VN K w B v xs):∃ (a:Option Addr) (n c:Nat),v = .slice a n c∧n≤c∧(a=none→c=0)∧xs.length=n∧n≤maxLen ∧
 ∀ k,k<n→∃ b off x u,a=some ⟨b,off,none⟩∧b<B∧K.ok x∧VS K.encB K.szB K.okB w B u (K.inn x)∧(∀ (j:Nat) (v:Value),(K.enc x u)[j]? = some v→w.cell? ⟨b,off+k*K.sz+j,none⟩=some v)∧Hid (xs[k]? = some x)∧Hid (xs.take (k+1)=xs.take k ++ [x]):=by
 obtain ⟨a,n,c,e,h1,h2,h3,h4,h5,h6⟩:=h
 refine ⟨a,n,c,e,h1,h2,h3,h4,fun k hk => ?_⟩
 have hl:k<xs.length:=AA
 obtain ⟨b,off,u,e,hlt,hu,hc⟩:=h6 k _ (List.getElem?_eq_getElem hl)
 exact ⟨b,off,_,u,e,hlt,h5 _ (List.getElem_mem hl),hu,hc,List.getElem?_eq_getElem hl,List.take_succ_eq_append_getElem hl⟩
end
def DI (n:Int):List Value := [n]
abbrev Cm:=VS DI 1 AE
abbrev Ds:=AC DI 1 3
theorem Cm.is {w:World} {B:Nat} {a:Option Addr} {n:Nat} {xs:List Int} (h:FS DI 1 AE w B a n xs):IS w B a n xs :=
 ⟨h.1,h.2.1,h.2.2.1,fun i x hx=>by
  obtain ⟨b,off,e,hb,hc⟩:=h.2.2.2 i x hx;have:=hc 0 _ rfl
  rw [Nat.mul_one,Nat.add_zero] at this
  exact ⟨b,off,e,hb,this⟩⟩
theorem xn:∀ l:List Int,l.flatMap DI=l.map (Value.int .i64):=fun l=>by induction l with | nil=>rfl | cons x l ih=>rw [List.flatMap_cons,ih];rfl
theorem Jf.inr {w:World} {B:Nat} {v:Value} {xs:List Int}:Jf w B v xs↔Ds w B v xs:=by
 unfold Jf Ds AC;rw [xn]
theorem OI.own2 {w:World} {B:Nat} {a:Option Addr} {len cap:Nat} {xs:List Int} (h:OI w B a len cap xs):AC DI 1 3 w B (.slice a len cap) xs:=by
 obtain ⟨h1,h2,_⟩:=h;subst h2;exact Jf.inr.1 h1
structure Bx (w:World) (b:Nat) (L:List Value):Prop where
 at_:w.rangeAt b 0 L
 th:w.there b 0 L.length
 ne:0<L.length
section
variable {w w':World} {b:Nat} {L:List Value}
theorem Bx.cell (h:Bx w b L) (j:Nat) (v:Value) (hj:L[j]? = some v):w.cell? ⟨b,j,none⟩=some v:=by simpa using h.at_ j v hj
theorem Bx.fz (h:Bx w b L) (j:Nat) (hj:j<L.length):w.frozen? ⟨b,j,none⟩=false:=by simpa using (h.th j hj).2
theorem Bx.lt (h:Bx w b L):b<w.heap.size:=by
 obtain ⟨v,hv⟩:∃ v,L[0]? = some v:=⟨_,List.getElem?_eq_getElem h.ne⟩;exact Lib.lt_of_cell (h.cell 0 v hv)
theorem Bx.keep (h:Bx w b L) (hb:Below w w w'):Bx w' b L:=by
 have hlt:=h.lt;refine ⟨fun j v hv=>BN hb (h.at_ j v hv),fun j hj => ?_,h.ne⟩;obtain ⟨h1,h2⟩:=h.th j hj;refine ⟨?_,(JB hb hlt).trans h2⟩;rw [hb.cell (p:=⟨b,0+j,none⟩) hlt];exact h1
theorem Bx.alloc (h:Bx w b L) (o:Obj):Bx (w.alloc o) b L:=h.keep (Ae (Below.refl _ _) o)
theorem Bx.drew (h:Bx w b L):Bx w.drew b L:=h.keep (Below.drew (Below.refl _ _))
theorem Bx.new (w:World) (C:Array Value) (t:TypeId) (L:List Value) (hL:C.toList=L) (hn:0<L.length) (g:Nat) (hg:w.heap.size=g):Bx (w.alloc (.cells C t)) g L:=by
 subst hg;subst hL;refine ⟨fun j v hv => ?_,fun j hj=>⟨?_,J6⟩,hn⟩
 ·have:=BC w C t rfl j v hv
  rwa [Nat.zero_add]
 rw [Nat.zero_add,World.cell?_alloc_at _ _ _ _ rfl];simpa using hj
theorem Bx.other (h:Bx w b L) (b' o:Nat) (vs:List Value) (hne:b≠b'):Bx (w.setCells b' o vs) b L :=
 ⟨World.rangeAt_setCells_apart h.at_ b' o vs (.inl hne),World.there_setCells h.th b' o vs,h.ne⟩
def EY (L:List Value) (o:Nat) (vs:List Value):List Value:=L.take o ++ (vs ++ L.drop (o+vs.length))
theorem ut (L vs:List Value) (o:Nat) (h:o+vs.length≤L.length):(EY L o vs).length=L.length:=by
 unfold EY;simp only [List.length_append,List.length_take,List.length_drop];omega
theorem Bx.set (h:Bx w b L) (o:Nat) (vs:List Value) (hle:o+vs.length≤L.length):Bx (w.setCells b o vs) b (EY L o vs):=by
 have hlen:=ut L vs o hle;refine ⟨fun j v hv => ?_,by rw [hlen];exact World.there_setCells h.th b o vs,by rw [hlen];exact h.ne⟩;have hth:w.there b o vs.length:=fun j hj=>by simpa using h.th (o+j) oM
 rcases Nat.lt_or_ge j o with h1 | h1
 ·have e:L[j]? = some v:=by
   unfold EY at hv;rw [List.getElem?_append_left An,List.getElem?_take_of_lt h1] at hv;exact hv
  rw [World.cell?_setCells_out b vs o w _ (fun _ _=>by left;show 0+j<o;omega)];exact h.at_ j v e
 rcases Nat.lt_or_ge j (o+vs.length) with h2 | h2
 ·have e:vs[j - o]? = some v:=by
   unfold EY at hv;rw [List.getElem?_append_right An,List.length_take,Nat.min_eq_left oM,List.getElem?_append_left oM] at hv;exact hv
  have:=World.rangeAt_setCells_same w b o vs hth (j - o) v e
  rw [show o+(j - o)=j by omega] at this;rwa [Nat.zero_add]
 have e:L[j]? = some v:=by
  unfold EY at hv;rw [List.getElem?_append_right An,List.length_take,Nat.min_eq_left oM,List.getElem?_append_right oM,List.getElem?_drop] at hv;rw [← hv]
  congr 1
  omega
 rw [World.cell?_setCells_out b vs o w _ (fun _ _=>by right;show o+vs.length≤0+j;omega)];exact h.at_ j v e
theorem Bx.range (h:Bx w b L) (o:Nat) (cs:List Value) (he:(L.drop o).take cs.length=cs):w.rangeAt b o cs:=fun j v hv=>by
 have hj:j<cs.length:=(List.getElem?_eq_some_iff.1 hv).1
 have e:L[o+j]? = some v:=by
  rw [← he,List.getElem?_take_of_lt hj,List.getElem?_drop] at hv;exact hv
 simpa using h.at_ (o+j) v e
theorem Bx.there (h:Bx w b L) (o n:Nat) (hle:o+n≤L.length):w.there b o n:=fun j hj=>by simpa using h.th (o+j) oM
end
theorem MR {F:List Nat} {b:Nat} (hb:b∈F):∀ (vs:List Value) (w w':World) (o:Nat),Ex F w w'→Ex F w (w'.setCells b o vs)
 | [],_,_,_,h=>h
 | v :: r,w,w',o,h=>by rw [World.setCells];exact MR hb r w _ _ (Ex.setCell h hb v)
theorem Xp:∀ (vs:List Value) (w:World) (b o:Nat),(w.setCells b o vs).heap.size=w.heap.size
 | [],_,_,_=>rfl
 | v :: r,w,b,o=>by rw [World.setCells,Xp r];simp [World.setCell]
theorem Kp {B b:Nat} {w:World} (hB:B≤b):∀ (vs:List Value) (w':World) (o:Nat),Below B w w'→Below B w (w'.setCells b o vs)
 | [],_,_,h=>h
 | v :: r,w',o,h=>by rw [World.setCells];exact Kp hB r _ _ (Below.setCell h hB v)
section
variable {ops:Array Oper} {rest:List Oper} {op:Oper} {a:Act} {w:World} {Q:Exit→Act→World→Prop}
theorem Ce {ty:TypeId} {n:Nat} (hu:∃ fs,Tryz.prog.underlying ty=some (.struct fs)) (hi:(Tryz.prog.info? ty).map (·.size)=some n) (hgd:op.guard=none) (x:Operand) (ho:op.op = .load ty x)
 (b o:Nat) (hx:a.eval x = .pointer (some ⟨b,o,none⟩)) (cs:List Value) (hc:w.rangeAt b o cs) (hn:cs.length=n) (h:wpList Tryz.prog ops Q rest (a.put op.dst (.agg cs.toArray)) w):wpList Tryz.prog ops Q (op :: rest) a w:=by
 obtain ⟨fs,hu⟩:=hu
 exact wpList_load_mid hgd ty x ho b o hx cs _ hc hu rfl (by rw [hn];exact hi) h
theorem M6 {ty:TypeId} {n:Nat} (hi:(Tryz.prog.info? ty).map (·.size)=some n) (hgd:op.guard=none) (x y:Operand) (ho:op.op = .store ty x y)
 (b o:Nat) (cs:List Value) (hx:a.eval x = .pointer (some ⟨b,o,none⟩)) (hy:a.eval y = .agg cs.toArray) (ht:w.there b o n) (hn:cs.length=n) (h1:∀ v∈cs,v.oneCell'=true)
 (h:wpList Tryz.prog ops Q rest (a.put op.dst undef) (w.setCells b o cs)):wpList Tryz.prog ops Q (op :: rest) a w:=by
 subst hn
 exact wpList_store_mid hgd ty x y ho b o cs.toArray hx hy (by simpa using ht) (by simpa using hi) (all_oneCell_toArray h1) Gi
theorem Iq {ty:TypeId} {n:Nat} (hu:∃ fs,Tryz.prog.underlying ty=some (.struct fs)) (hi:(Tryz.prog.info? ty).map (·.size)=some n) {b:Nat} {L:List Value} (h:Bx w b L) (hn:L.length=n):(loadVar ty ⟨b,0,none⟩).run Tryz.prog w = .ok (.agg L.toArray) w:=by
 obtain ⟨fs,hu⟩:=hu;exact run_loadVar_mid w b 0 ty L _ h.at_ hu rfl (by rw [hn];exact hi)
end
end
section
theorem bM (w : World) (L : List Value) (t : TypeId) {g : Nat} (hg : w.heap.size = g) (h : 0 < L.length := by exact Nat.zero_lt_succ _) : Bx (w.alloc (.cells L.toArray t)) g L := Bx.new w L.toArray t L rfl h _ hg
theorem bN (w : World) (L : List Value) (t : TypeId) (h : 0 < L.length := by exact Nat.zero_lt_succ _) : Bx (w.alloc (.cells L.toArray t)) w.heap.size L := Bx.new w L.toArray t L rfl h _ rfl
theorem bA (w : World) (L : List Value) (t : TypeId) : Below w.heap.size w (w.alloc (.cells L.toArray t)) := Ae (Below.refl _ _) _
theorem bZ (w : World) (L : List Value) (t : TypeId) : (w.alloc (.cells L.toArray t)).heap.size = w.heap.size + 1 := by simp
section
variable {P : Program} {Q : Exit → Act → World → Prop} {md : Region.Mode} {S : World → Prop} {last : Nat} {l : List Oper}
theorem tK (i : Nat) {oi : Oper} {v : Value} {fuel : Nat} {listed listed' : Array Bool} {a a' : Act} {w : World} (h : wpAnyH P md l.toArray Q S fuel listed' a' w) (hi : l[i]? = some oi := by rfl)
    (hs : Region.noSelect l.toArray = true := by kernel_rfl) (hf : Region.free md l.toArray listed i = true := by kernel_rfl) (hr : (Region.ready md l.toArray listed).contains i = true := by kernel_rfl)
    (hQ : ∀ c a w, Q (.panic c) (a.put oi.dst v) w → Q (.panic c) a w := by exact fun _ _ _ h => h) (hy : YieldsIf P l.toArray S oi v a := by exact Or.inl ⟨by rfl, by (intro w hSw; (try dsimp only at hSw); go_simp; try (with_reducible rfl))⟩) (hS : S w := by assumption)
    (hl : listed.setIfInBounds i true = listed' := by ((try (conv => lhs; simp only [Act.put, List.setIfInBounds_toArray, List.set_cons_zero, List.set_cons_succ])); first | done | exact rfl)) (ha : a.put oi.dst v = a' := by ((try (conv => lhs; simp only [Act.put, List.setIfInBounds_toArray, List.set_cons_zero, List.set_cons_succ])); first | done | exact rfl)) : wpAnyH P md l.toArray Q S (fuel + 1) listed a w := by
  subst hl
  subst ha
  exact U4 hi hs hf hr hQ hy hS h
theorem tN (i : Nat) {oi : Oper} {fuel : Nat} {listed listed' : Array Bool} {a a' : Act} {w : World} (h : wpAnyH P md l.toArray Q S fuel listed' a' w) (hi : l[i]? = some oi := by rfl)
    (hs : Region.noSelect l.toArray = true := by kernel_rfl) (hf : Region.free md l.toArray listed i = true := by kernel_rfl) (hr : (Region.ready md l.toArray listed).contains i = true := by kernel_rfl)
    (hQ : ∀ c a w, Q (.panic c) (a.put oi.dst undef) w → Q (.panic c) a w := by exact fun _ _ _ h => h) (hy : YieldsIf P l.toArray S oi undef a := by exact Or.inr ⟨by rfl, rfl⟩) (hS : S w := by assumption)
    (hl : listed.setIfInBounds i true = listed' := by ((try (conv => lhs; simp only [Act.put, List.setIfInBounds_toArray, List.set_cons_zero, List.set_cons_succ])); first | done | exact rfl)) (ha : a.put oi.dst undef = a' := by ((try (conv => lhs; simp only [Act.put, List.setIfInBounds_toArray, List.set_cons_zero, List.set_cons_succ])); first | done | exact rfl)) : wpAnyH P md l.toArray Q S (fuel + 1) listed a w := by
  subst hl
  subst ha
  exact U4 hi hs hf hr hQ hy hS h
theorem tH (i : Nat) {o : Oper} {fuel : Nat} {listed : Array Bool} {a : Act} {w : World}
    (h : ∀ K' : Act → World → Prop, Shut (∀ a w, S w → (S w → wpAnyH P md l.toArray Q S fuel (listed.setIfInBounds i true) a w) → K' a w) → if Region.wanted o (yielded l.toArray a.tmps) = true then Oper.wp P o a w K' Q else K' (a.put o.dst undef) w)
    (ho : l[i]? = some o := by rfl) (hr : Region.ready md l.toArray listed = [i] := by kernel_rfl) : wpAnyH P md l.toArray Q S (fuel + 1) listed a w := wpAnyH_ready hr (by simp) (yf ho h AllReadyH.nil)
theorem sO {ops : Array Oper} {K' : Act → World → Prop} {fuel : Nat} {listed : Array Bool} (hK : Shut (∀ a w, S w → (S w → wpAnyH P md ops Q S fuel listed a w) → K' a w)) {a : Act} {w : World} {p : Prop} (h : S w → p)
    (hs : S w := by ((try dsimp only); go_keep)) (hp : wpAnyH P md ops Q S fuel listed a w = p := by (try (conv => lhs; simp only [Act.put, List.setIfInBounds_toArray, List.set_cons_zero, List.set_cons_succ])); first | done | exact rfl) : K' a w := hK.out a w hs (fun x => by rw [hp]; exact h x)
theorem cZ {P : Program} {c : Code} {Q : Exit → Act → World → Prop} {a : Act} {w : World} {t : TypeId} {x : Value} {L : List Value} (h : ∀ w', Bx w' w.heap.size (x :: L) → Below w.heap.size w w' → w'.heap.size = w.heap.size + 1 → c.wp P Q a w') : c.wp P Q a (w.alloc (.cells (x :: L).toArray t)) :=
  h _ (Bx.new w (x :: L).toArray t (x :: L) rfl (by simp) _ rfl) (Ae (Below.refl _ _) _) (by simp)
theorem cW {P : Program} {c : Code} {Q : Exit → Act → World → Prop} {a : Act} {w : World} {t : TypeId} {x : Value} {L : List Value} (h : ∀ w', Bx w' w.heap.size (x :: L) → Below w.heap.size w w' → c.wp P Q a w') : c.wp P Q a (w.alloc (.cells (x :: L).toArray t)) := cZ fun w' p b _ => h w' p b
theorem cY {P : Program} {c : Code} {Q : Exit → Act → World → Prop} {a : Act} {w : World} {t : TypeId} {x : Value} {L : List Value} {g : Nat} (hg : w.heap.size = g) (h : ∀ w', Bx w' g (x :: L) → Below w.heap.size w w' → w'.heap.size = w.heap.size + 1 → c.wp P Q a w') : c.wp P Q a (w.alloc (.cells (x :: L).toArray t)) :=
  h _ (Bx.new w (x :: L).toArray t (x :: L) rfl (by simp) _ hg) (Ae (Below.refl _ _) _) (by simp)
theorem cV {P : Program} {c : Code} {Q : Exit → Act → World → Prop} {a : Act} {w : World} {t : TypeId} {x : Value} {L : List Value} {g : Nat} (hg : w.heap.size = g) (h : ∀ w', Bx w' g (x :: L) → Below w.heap.size w w' → c.wp P Q a w') : c.wp P Q a (w.alloc (.cells (x :: L).toArray t)) := cY hg fun w' p b _ => h w' p b
theorem cJ {P : Program} {c : Code} {Q : Exit → Act → World → Prop} {a : Act} {w : World} {t : TypeId} {x : Value} {L : List Value} {o : Obj} (h : ∀ w', Bx w' w.heap.size (x :: L) → Below w.heap.size w w' → w'.heap.size = w.heap.size + 1 → c.wp P Q a (w'.alloc o)) : c.wp P Q a ((w.alloc (.cells (x :: L).toArray t)).alloc o) :=
  h _ (Bx.new w (x :: L).toArray t (x :: L) rfl (by simp) _ rfl) (Ae (Below.refl _ _) _) (by simp)
theorem cI {P : Program} {c : Code} {Q : Exit → Act → World → Prop} {a : Act} {w : World} {t : TypeId} {x : Value} {L : List Value} {o : Obj} (h : ∀ w', Bx w' w.heap.size (x :: L) → Below w.heap.size w w' → c.wp P Q a (w'.alloc o)) : c.wp P Q a ((w.alloc (.cells (x :: L).toArray t)).alloc o) := cJ fun w' p b _ => h w' p b
theorem cL {P : Program} {c : Code} {Q : Exit → Act → World → Prop} {a : Act} {w : World} {t : TypeId} {x : Value} {L : List Value} {o o2 : Obj} (h : ∀ w', Bx w' w.heap.size (x :: L) → Below w.heap.size w w' → w'.heap.size = w.heap.size + 1 → c.wp P Q a ((w'.alloc o).alloc o2)) : c.wp P Q a (((w.alloc (.cells (x :: L).toArray t)).alloc o).alloc o2) :=
  h _ (Bx.new w (x :: L).toArray t (x :: L) rfl (by simp) _ rfl) (Ae (Below.refl _ _) _) (by simp)
theorem cK {P : Program} {c : Code} {Q : Exit → Act → World → Prop} {a : Act} {w : World} {t : TypeId} {x : Value} {L : List Value} {o o2 : Obj} (h : ∀ w', Bx w' w.heap.size (x :: L) → Below w.heap.size w w' → c.wp P Q a ((w'.alloc o).alloc o2)) : c.wp P Q a (((w.alloc (.cells (x :: L).toArray t)).alloc o).alloc o2) := cL fun w' p b _ => h w' p b
theorem tP (i : Nat) {oi : Oper} {v : Value} {fuel : Nat} {listed listed' : Array Bool} {a a' : Act} {w : World} (h : Cu P md l.toArray Q S last fuel listed' a' w) (hi : l[i]? = some oi := by rfl)
    (hs : Region.noSelect l.toArray = true := by kernel_rfl) (hf : Region.free md l.toArray listed i = true := by kernel_rfl) (hr : (Region.ready md l.toArray listed).contains i = true := by kernel_rfl) (hc : (GD md l.toArray l.toArray.size last i && J5 md l.toArray listed && !(i == last)) = true := by kernel_rfl)
    (hQ : ∀ c a w, Q (.panic c) (a.put oi.dst v) w → Q (.panic c) a w := by exact fun _ _ _ h => h) (hy : YieldsIf P l.toArray S oi v a := by exact Or.inl ⟨by rfl, by (intro w hSw; (try dsimp only at hSw); go_simp; try (with_reducible rfl))⟩) (hS : S w := by assumption)
    (hl : listed.setIfInBounds i true = listed' := by (try (conv => lhs; simp only [Act.put, List.setIfInBounds_toArray, List.set_cons_zero, List.set_cons_succ])); first | done | exact rfl) (ha : a.put oi.dst v = a' := by (try (conv => lhs; simp only [Act.put, List.setIfInBounds_toArray, List.set_cons_zero, List.set_cons_succ])); first | done | exact rfl) : Cu P md l.toArray Q S last (fuel + 1) listed a w := by
  subst hl
  subst ha
  exact Wc hi hs hf hr hc hQ hy hS h
theorem tQ (i : Nat) {oi : Oper} {fuel : Nat} {listed listed' : Array Bool} {a a' : Act} {w : World} (h : Cu P md l.toArray Q S last fuel listed' a' w) (hi : l[i]? = some oi := by rfl)
    (hs : Region.noSelect l.toArray = true := by kernel_rfl) (hf : Region.free md l.toArray listed i = true := by kernel_rfl) (hr : (Region.ready md l.toArray listed).contains i = true := by kernel_rfl) (hc : (GD md l.toArray l.toArray.size last i && J5 md l.toArray listed && !(i == last)) = true := by kernel_rfl)
    (hQ : ∀ c a w, Q (.panic c) (a.put oi.dst undef) w → Q (.panic c) a w := by exact fun _ _ _ h => h) (hy : YieldsIf P l.toArray S oi undef a := by exact Or.inr ⟨by rfl, rfl⟩) (hS : S w := by assumption)
    (hl : listed.setIfInBounds i true = listed' := by (try (conv => lhs; simp only [Act.put, List.setIfInBounds_toArray, List.set_cons_zero, List.set_cons_succ])); first | done | exact rfl) (ha : a.put oi.dst undef = a' := by (try (conv => lhs; simp only [Act.put, List.setIfInBounds_toArray, List.set_cons_zero, List.set_cons_succ])); first | done | exact rfl) : Cu P md l.toArray Q S last (fuel + 1) listed a w := by
  subst hl
  subst ha
  exact Wc hi hs hf hr hc hQ hy hS h
theorem tR (i : Nat) {o : Oper} {fuel : Nat} {listed : Array Bool} {a : Act} {w : World}
    (h : ∀ K' : Act → World → Prop, Shut (∀ a w, (i = last ∨ S w) → ((i = last ∨ S w) → Cu P md l.toArray Q S last fuel (listed.setIfInBounds i true) a w) → K' a w) → if Region.wanted o (yielded l.toArray a.tmps) = true then Oper.wp P o a w K' Q else K' (a.put o.dst undef) w)
    (ho : l[i]? = some o := by rfl) (hr : Region.ready md l.toArray listed = [i] := by kernel_rfl) : Cu P md l.toArray Q S last (fuel + 1) listed a w := QF hr (by simp) (LN ho h Em.nil)
theorem sP {ops : Array Oper} {K' : Act → World → Prop} {fuel i : Nat} {listed : Array Bool} (hK : Shut (∀ a w, (i = last ∨ S w) → ((i = last ∨ S w) → Cu P md ops Q S last fuel listed a w) → K' a w)) {a : Act} {w : World} {p : Prop} (h : S w → p)
    (hs : S w := by ((try dsimp only); go_keep)) (hp : Cu P md ops Q S last fuel listed a w = p := by (try (conv => lhs; simp only [Act.put, List.setIfInBounds_toArray, List.set_cons_zero, List.set_cons_succ])); first | done | exact rfl) : K' a w := hK.out a w (Or.inr hs) (fun _ => by rw [hp]; exact h hs)
end
theorem Bx.c2 {w : World} {b : Nat} {x0 x1 : Value} {r : List Value} (h : Bx w b (x0 :: x1 :: r)) : w.cell? ⟨b, 0, none⟩ = some x0 ∧ w.cell? ⟨b, 1, none⟩ = some x1 := ⟨h.cell 0 _ rfl, h.cell 1 _ rfl⟩
theorem Bx.z2 {w : World} {b : Nat} {x0 x1 : Value} {r : List Value} (h : Bx w b (x0 :: x1 :: r)) : w.frozen? ⟨b, 0, none⟩ = false ∧ w.frozen? ⟨b, 1, none⟩ = false := ⟨h.fz 0 (by simp only [List.length_cons]; omega), h.fz 1 (by simp only [List.length_cons]; omega)⟩
theorem Bx.c3 {w : World} {b : Nat} {x0 x1 x2 : Value} {r : List Value} (h : Bx w b (x0 :: x1 :: x2 :: r)) : w.cell? ⟨b, 0, none⟩ = some x0 ∧ w.cell? ⟨b, 1, none⟩ = some x1 ∧ w.cell? ⟨b, 2, none⟩ = some x2 := ⟨h.cell 0 _ rfl, h.cell 1 _ rfl, h.cell 2 _ rfl⟩
theorem Bx.z3 {w : World} {b : Nat} {x0 x1 x2 : Value} {r : List Value} (h : Bx w b (x0 :: x1 :: x2 :: r)) : w.frozen? ⟨b, 0, none⟩ = false ∧ w.frozen? ⟨b, 1, none⟩ = false ∧ w.frozen? ⟨b, 2, none⟩ = false := ⟨h.fz 0 (by simp only [List.length_cons]; omega), h.fz 1 (by simp only [List.length_cons]; omega), h.fz 2 (by simp only [List.length_cons]; omega)⟩
theorem Bx.c4 {w : World} {b : Nat} {x0 x1 x2 x3 : Value} {r : List Value} (h : Bx w b (x0 :: x1 :: x2 :: x3 :: r)) : w.cell? ⟨b, 0, none⟩ = some x0 ∧ w.cell? ⟨b, 1, none⟩ = some x1 ∧ w.cell? ⟨b, 2, none⟩ = some x2 ∧ w.cell? ⟨b, 3, none⟩ = some x3 := ⟨h.cell 0 _ rfl, h.cell 1 _ rfl, h.cell 2 _ rfl, h.cell 3 _ rfl⟩
theorem Bx.z4 {w : World} {b : Nat} {x0 x1 x2 x3 : Value} {r : List Value} (h : Bx w b (x0 :: x1 :: x2 :: x3 :: r)) : w.frozen? ⟨b, 0, none⟩ = false ∧ w.frozen? ⟨b, 1, none⟩ = false ∧ w.frozen? ⟨b, 2, none⟩ = false ∧ w.frozen? ⟨b, 3, none⟩ = false := ⟨h.fz 0 (by simp only [List.length_cons]; omega), h.fz 1 (by simp only [List.length_cons]; omega), h.fz 2 (by simp only [List.length_cons]; omega), h.fz 3 (by simp only [List.length_cons]; omega)⟩
theorem Bx.c5 {w : World} {b : Nat} {x0 x1 x2 x3 x4 : Value} {r : List Value} (h : Bx w b (x0 :: x1 :: x2 :: x3 :: x4 :: r)) : w.cell? ⟨b, 0, none⟩ = some x0 ∧ w.cell? ⟨b, 1, none⟩ = some x1 ∧ w.cell? ⟨b, 2, none⟩ = some x2 ∧ w.cell? ⟨b, 3, none⟩ = some x3 ∧ w.cell? ⟨b, 4, none⟩ = some x4 := ⟨h.cell 0 _ rfl, h.cell 1 _ rfl, h.cell 2 _ rfl, h.cell 3 _ rfl, h.cell 4 _ rfl⟩
theorem Bx.c6 {w : World} {b : Nat} {x0 x1 x2 x3 x4 x5 : Value} {r : List Value} (h : Bx w b (x0 :: x1 :: x2 :: x3 :: x4 :: x5 :: r)) : w.cell? ⟨b, 0, none⟩ = some x0 ∧ w.cell? ⟨b, 1, none⟩ = some x1 ∧ w.cell? ⟨b, 2, none⟩ = some x2 ∧ w.cell? ⟨b, 3, none⟩ = some x3 ∧ w.cell? ⟨b, 4, none⟩ = some x4 ∧ w.cell? ⟨b, 5, none⟩ = some x5 := ⟨h.cell 0 _ rfl, h.cell 1 _ rfl, h.cell 2 _ rfl, h.cell 3 _ rfl, h.cell 4 _ rfl, h.cell 5 _ rfl⟩
theorem Bx.z6 {w : World} {b : Nat} {x0 x1 x2 x3 x4 x5 : Value} {r : List Value} (h : Bx w b (x0 :: x1 :: x2 :: x3 :: x4 :: x5 :: r)) : w.frozen? ⟨b, 0, none⟩ = false ∧ w.frozen? ⟨b, 1, none⟩ = false ∧ w.frozen? ⟨b, 2, none⟩ = false ∧ w.frozen? ⟨b, 3, none⟩ = false ∧ w.frozen? ⟨b, 4, none⟩ = false ∧ w.frozen? ⟨b, 5, none⟩ = false := ⟨h.fz 0 (by simp only [List.length_cons]; omega), h.fz 1 (by simp only [List.length_cons]; omega), h.fz 2 (by simp only [List.length_cons]; omega), h.fz 3 (by simp only [List.length_cons]; omega), h.fz 4 (by simp only [List.length_cons]; omega), h.fz 5 (by simp only [List.length_cons]; omega)⟩
theorem Bx.c7 {w : World} {b : Nat} {x0 x1 x2 x3 x4 x5 x6 : Value} {r : List Value} (h : Bx w b (x0 :: x1 :: x2 :: x3 :: x4 :: x5 :: x6 :: r)) : w.cell? ⟨b, 0, none⟩ = some x0 ∧ w.cell? ⟨b, 1, none⟩ = some x1 ∧ w.cell? ⟨b, 2, none⟩ = some x2 ∧ w.cell? ⟨b, 3, none⟩ = some x3 ∧ w.cell? ⟨b, 4, none⟩ = some x4 ∧ w.cell? ⟨b, 5, none⟩ = some x5 ∧ w.cell? ⟨b, 6, none⟩ = some x6 := ⟨h.cell 0 _ rfl, h.cell 1 _ rfl, h.cell 2 _ rfl, h.cell 3 _ rfl, h.cell 4 _ rfl, h.cell 5 _ rfl, h.cell 6 _ rfl⟩
theorem Bx.z7 {w : World} {b : Nat} {x0 x1 x2 x3 x4 x5 x6 : Value} {r : List Value} (h : Bx w b (x0 :: x1 :: x2 :: x3 :: x4 :: x5 :: x6 :: r)) : w.frozen? ⟨b, 0, none⟩ = false ∧ w.frozen? ⟨b, 1, none⟩ = false ∧ w.frozen? ⟨b, 2, none⟩ = false ∧ w.frozen? ⟨b, 3, none⟩ = false ∧ w.frozen? ⟨b, 4, none⟩ = false ∧ w.frozen? ⟨b, 5, none⟩ = false ∧ w.frozen? ⟨b, 6, none⟩ = false := ⟨h.fz 0 (by simp only [List.length_cons]; omega), h.fz 1 (by simp only [List.length_cons]; omega), h.fz 2 (by simp only [List.length_cons]; omega), h.fz 3 (by simp only [List.length_cons]; omega), h.fz 4 (by simp only [List.length_cons]; omega), h.fz 5 (by simp only [List.length_cons]; omega), h.fz 6 (by simp only [List.length_cons]; omega)⟩
theorem Bx.c8 {w : World} {b : Nat} {x0 x1 x2 x3 x4 x5 x6 x7 : Value} {r : List Value} (h : Bx w b (x0 :: x1 :: x2 :: x3 :: x4 :: x5 :: x6 :: x7 :: r)) : w.cell? ⟨b, 0, none⟩ = some x0 ∧ w.cell? ⟨b, 1, none⟩ = some x1 ∧ w.cell? ⟨b, 2, none⟩ = some x2 ∧ w.cell? ⟨b, 3, none⟩ = some x3 ∧ w.cell? ⟨b, 4, none⟩ = some x4 ∧ w.cell? ⟨b, 5, none⟩ = some x5 ∧ w.cell? ⟨b, 6, none⟩ = some x6 ∧ w.cell? ⟨b, 7, none⟩ = some x7 := ⟨h.cell 0 _ rfl, h.cell 1 _ rfl, h.cell 2 _ rfl, h.cell 3 _ rfl, h.cell 4 _ rfl, h.cell 5 _ rfl, h.cell 6 _ rfl, h.cell 7 _ rfl⟩
theorem Bx.z8 {w : World} {b : Nat} {x0 x1 x2 x3 x4 x5 x6 x7 : Value} {r : List Value} (h : Bx w b (x0 :: x1 :: x2 :: x3 :: x4 :: x5 :: x6 :: x7 :: r)) : w.frozen? ⟨b, 0, none⟩ = false ∧ w.frozen? ⟨b, 1, none⟩ = false ∧ w.frozen? ⟨b, 2, none⟩ = false ∧ w.frozen? ⟨b, 3, none⟩ = false ∧ w.frozen? ⟨b, 4, none⟩ = false ∧ w.frozen? ⟨b, 5, none⟩ = false ∧ w.frozen? ⟨b, 6, none⟩ = false ∧ w.frozen? ⟨b, 7, none⟩ = false := ⟨h.fz 0 (by simp only [List.length_cons]; omega), h.fz 1 (by simp only [List.length_cons]; omega), h.fz 2 (by simp only [List.length_cons]; omega), h.fz 3 (by simp only [List.length_cons]; omega), h.fz 4 (by simp only [List.length_cons]; omega), h.fz 5 (by simp only [List.length_cons]; omega), h.fz 6 (by simp only [List.length_cons]; omega), h.fz 7 (by simp only [List.length_cons]; omega)⟩
theorem Bx.c14 {w : World} {b : Nat} {x0 x1 x2 x3 x4 x5 x6 x7 x8 x9 x10 x11 x12 x13 : Value} {r : List Value} (h : Bx w b (x0 :: x1 :: x2 :: x3 :: x4 :: x5 :: x6 :: x7 :: x8 :: x9 :: x10 :: x11 :: x12 :: x13 :: r)) : w.cell? ⟨b, 0, none⟩ = some x0 ∧ w.cell? ⟨b, 1, none⟩ = some x1 ∧ w.cell? ⟨b, 2, none⟩ = some x2 ∧ w.cell? ⟨b, 3, none⟩ = some x3 ∧ w.cell? ⟨b, 4, none⟩ = some x4 ∧ w.cell? ⟨b, 5, none⟩ = some x5 ∧ w.cell? ⟨b, 6, none⟩ = some x6 ∧ w.cell? ⟨b, 7, none⟩ = some x7 ∧ w.cell? ⟨b, 8, none⟩ = some x8 ∧ w.cell? ⟨b, 9, none⟩ = some x9 ∧ w.cell? ⟨b, 10, none⟩ = some x10 ∧ w.cell? ⟨b, 11, none⟩ = some x11 ∧ w.cell? ⟨b, 12, none⟩ = some x12 ∧ w.cell? ⟨b, 13, none⟩ = some x13 := ⟨h.cell 0 _ rfl, h.cell 1 _ rfl, h.cell 2 _ rfl, h.cell 3 _ rfl, h.cell 4 _ rfl, h.cell 5 _ rfl, h.cell 6 _ rfl, h.cell 7 _ rfl, h.cell 8 _ rfl, h.cell 9 _ rfl, h.cell 10 _ rfl, h.cell 11 _ rfl, h.cell 12 _ rfl, h.cell 13 _ rfl⟩
end
structure Ev where
 kind:Int
 key:Int
 ch:Int
 tw:Int
 amt:Int
 fee:Int
 yes:Bool
def Ev.enc (r:Ev):List Value := [r.kind,r.key,r.ch,r.tw,r.amt,r.fee,r.yes]
def Ev.ok (r:Ev):Prop:=AE r.kind∧AE r.key∧AE r.ch∧AE r.tw∧AE r.amt∧AE r.fee∧True
theorem Ev.enc_len (r:Ev):r.enc.length=7:=rfl
abbrev I8:=FS Ev.enc 7 Ev.ok
theorem Js:(Tryz.prog.info? 73).map (fun i=>(i.zero,i.size,i.bytes))=some (some (.agg #[I0,I0,I0,I0,I0,I0,false]),7,56):=Cr
abbrev EvO:=OF Ev.enc 7 Ev.ok 73
theorem I8.cells {w:World} {B:Nat} {a:Option Addr} {len:Nat} {xs:List Ev} (h:I8 w B a len xs) {k:Nat} (hk:k<len) :
 ∃ g off x0 x1 x2 x3 x4 x5 x6,a=some ⟨g,off,none⟩∧g<B∧w.cell? ⟨g,off+k*7,none⟩=some (.int .i64 x0)∧w.cell? ⟨g,off+k*7+1,none⟩=some (.int .i64 x1)∧w.cell? ⟨g,off+k*7+2,none⟩=some (.int .i64 x2)∧w.cell? ⟨g,off+k*7+3,none⟩=some (.int .i64 x3)∧w.cell? ⟨g,off+k*7+4,none⟩=some (.int .i64 x4)∧w.cell? ⟨g,off+k*7+5,none⟩=some (.int .i64 x5)∧w.cell? ⟨g,off+k*7+6,none⟩=some (.bool x6) ∧
  AE x0∧AE x1∧AE x2∧AE x3∧AE x4∧AE x5∧True∧Hid (xs[k]? = some ⟨x0,x1,x2,x3,x4,x5,x6⟩)∧Hid (xs.take (k+1)=xs.take k ++ [⟨x0,x1,x2,x3,x4,x5,x6⟩]):=by
 obtain ⟨g,off,r,e,hb,hc,hok,hx,ht⟩:=h.at_ hk
 obtain ⟨x0,x1,x2,x3,x4,x5,x6⟩:=r
 obtain ⟨o0,o1,o2,o3,o4,o5,o6⟩:=hok
 exact ⟨g,off,x0,x1,x2,x3,x4,x5,x6,e,hb,hc 0 _ rfl,hc 1 _ rfl,hc 2 _ rfl,hc 3 _ rfl,hc 4 _ rfl,hc 5 _ rfl,hc 6 _ rfl,o0,o1,o2,o3,o4,o5,o6,hx,ht⟩
theorem A0n (a:Option Addr) (len cap:Nat) (n:Int) (w:World) (hl:len≤9223372036854775807) (h0:0≤n) (h1:n≤1048576):Calls Tryz.prog 41 #[.slice a len cap,n] w fun e w' =>
 e = .returned (.int .i64 (if n - (len:Int)<0 then -1 else n - len))∧w=w':=by
 by_cases h:n - (len:Int)<0
 ·rw [if_pos h];go_enter Tryz.func41,Tryz.ntmps41
  exact IY
 rw [if_neg h]
 go_enter Tryz.func41,Tryz.ntmps41
 go_wp2
 go_ret
 exact ⟨rfl,rfl⟩
def IU (w:World) (B:Nat) (a:Option Addr) (len cap:Nat) (xs:List Ev) (k:Nat):Prop :=
 ∃ rest:List Value,w.ownsRow B 73 7 (.slice a len cap) len ((xs.take k).flatMap Ev.enc ++ rest)∧rest.length=(len - k)*7
theorem IU.open_ {w:World} {B:Nat} {a:Option Addr} {len cap:Nat} {xs:List Ev} {k:Nat} (h:IU w B a len cap xs k) (hx:xs.length=len) (hk:k<len) :
 ∃ g y0 y1 y2 y3 y4 y5 y6 rest,a=some ⟨g,0,none⟩∧B≤g∧rest.length=(len - (k+1))*7∧w.ownsRow B 73 7 (.slice (some ⟨g,0,none⟩) len cap) len ((xs.take k).flatMap Ev.enc ++ [y0,y1,y2,y3,y4,y5,y6] ++ rest) ∧
  w.cell? ⟨g,k*7,none⟩=some y0∧w.cell? ⟨g,k*7+1,none⟩=some y1∧w.cell? ⟨g,k*7+2,none⟩=some y2∧w.cell? ⟨g,k*7+3,none⟩=some y3∧w.cell? ⟨g,k*7+4,none⟩=some y4∧w.cell? ⟨g,k*7+5,none⟩=some y5∧w.cell? ⟨g,k*7+6,none⟩=some y6∧∀ o,w.frozen? ⟨g,o,none⟩=false:=by
 obtain ⟨rest,hown,hr⟩:=h
 obtain ⟨g,rfl,hg⟩:=Kz w hown oM
 obtain ⟨y0,y1,y2,y3,y4,y5,y6,r',rfl⟩:∃ y0 y1 y2 y3 y4 y5 y6 r',rest=y0 :: y1 :: y2 :: y3 :: y4 :: y5 :: y6 :: r':=by
  exact Qu
 have hl:((xs.take k).flatMap Ev.enc).length=k*7:=by rw [DN Ev.enc_len];simp;omega
 have hkk:k*7+7≤len*7:=AA
 have get:∀ j v,[y0,y1,y2,y3,y4,y5,y6][j]? = some v→w.cell? ⟨g,k*7+j,none⟩=some v:=by
  exact Qv
 refine ⟨g,y0,y1,y2,y3,y4,y5,y6,r',rfl,hg,?_,DW,get 0 _ rfl,get 1 _ rfl,get 2 _ rfl,get 3 _ rfl,get 4 _ rfl,get 5 _ rfl,get 6 _ rfl,fun o=>hown.frozenAt o⟩
 simp at hr
 omega
theorem IU.put {w:World} {B g len cap:Nat} {xs:List Ev} {k:Nat} {r:Ev} {y0 y1 y2 y3 y4 y5 y6 v0 v1 v2 v3 v4 v5 v6:Value} {rest:List Value} (hown:w.ownsRow B 73 7 (.slice (some ⟨g,0,none⟩) len cap) len ((xs.take k).flatMap Ev.enc ++ [y0,y1,y2,y3,y4,y5,y6] ++ rest)) (hr:rest.length=(len - (k+1))*7) (hx:xs.length=len) (hk:k<len)
 (ht:xs.take (k+1)=xs.take k ++ [r]) (hv:r.enc = [v0,v1,v2,v3,v4,v5,v6]):IU (((((((w.setCell ⟨g,k*7,none⟩ v0).setCell ⟨g,k*7+1,none⟩ v1).setCell ⟨g,k*7+2,none⟩ v2).setCell ⟨g,k*7+3,none⟩ v3).setCell ⟨g,k*7+4,none⟩ v4).setCell ⟨g,k*7+5,none⟩ v5).setCell ⟨g,k*7+6,none⟩ v6) B (some ⟨g,0,none⟩) len cap xs (k+1):=by
 have hl:((xs.take k).flatMap Ev.enc).length=k*7:=by rw [DN Ev.enc_len];simp;omega
 replace hown:w.ownsRow B 73 7 (.slice (some ⟨g,0,none⟩) len cap) len (((xs.take k).flatMap Ev.enc) ++ y0 :: (y1 :: y2 :: y3 :: y4 :: y5 :: y6 :: rest)):=DW
 have s0:=(hown.stored (k*7) v0).1
 rw [BR ((xs.take k).flatMap Ev.enc) (y1 :: y2 :: y3 :: y4 :: y5 :: y6 :: rest) y0 v0 (k*7) BT] at s0
 have s1:=(s0.stored (k*7+1) v1).1
 rw [BR (((xs.take k).flatMap Ev.enc) ++ [v0]) (y2 :: y3 :: y4 :: y5 :: y6 :: rest) y1 v1 (k*7+1) BT] at s1
 have s2:=(s1.stored (k*7+2) v2).1
 rw [BR ((((xs.take k).flatMap Ev.enc) ++ [v0]) ++ [v1]) (y3 :: y4 :: y5 :: y6 :: rest) y2 v2 (k*7+2) BT] at s2
 have s3:=(s2.stored (k*7+3) v3).1
 rw [BR (((((xs.take k).flatMap Ev.enc) ++ [v0]) ++ [v1]) ++ [v2]) (y4 :: y5 :: y6 :: rest) y3 v3 (k*7+3) BT] at s3
 have s4:=(s3.stored (k*7+4) v4).1
 rw [BR ((((((xs.take k).flatMap Ev.enc) ++ [v0]) ++ [v1]) ++ [v2]) ++ [v3]) (y5 :: y6 :: rest) y4 v4 (k*7+4) BT] at s4
 have s5:=(s4.stored (k*7+5) v5).1
 rw [BR (((((((xs.take k).flatMap Ev.enc) ++ [v0]) ++ [v1]) ++ [v2]) ++ [v3]) ++ [v4]) (y6 :: rest) y5 v5 (k*7+5) BT] at s5
 have s6:=(s5.stored (k*7+6) v6).1
 rw [BR ((((((((xs.take k).flatMap Ev.enc) ++ [v0]) ++ [v1]) ++ [v2]) ++ [v3]) ++ [v4]) ++ [v5]) (rest) y6 v6 (k*7+6) BT] at s6
 refine ⟨rest,?_,hr⟩
 rw [ht,List.flatMap_append,List.flatMap_cons,List.flatMap_nil,hv,List.append_nil]
 simpa using s6
theorem zZ (a:Option Addr) (len cap:Nat) (xs:List Ev) (w:World) (hs:I8 w w a len xs) (hlen:len≤1048576):Calls Tryz.prog 50 #[.slice a len cap] w fun e w' =>
 (∃ a c,e = .returned (.slice a len c)∧EvO w' w a len c xs)∧Below w w w':=by
 obtain ⟨i0,hi,hz0,hz1,hz2⟩:=info_parts Js
 go_enter Tryz.func50,Tryz.ntmps50
 go_wp2_with (at_make;refine wpList_make_full w rfl _ _ _ rfl w 73 i0 (.agg #[I0,I0,I0,I0,I0,I0,false]) 7 Tryz.underlying58 hi hz0 hz1 .i64 .i64 _ _ len rfl rfl rfl rfl ?b2 ?b3 (Nat.le_refl _) ?_)
 case b2=>rw [hz2];omega
 case b3=>unfold maxLen;omega
 intro w1 hown hgr
 have hB1:Below w w w1:=(Below.refl _ _).grown hgr (Nat.le_refl _) sM
 have hxl:xs.length=len:=hs.1
 have hown1:IU w1 w (some ⟨w,0,none⟩) len len xs 0:=⟨_,DW,J8⟩
 clear hown hgr
 have Hxl:=lH hxl;clear hxl
 go_wp2
 go_loopw [4] (fun i wr=>∃ k:Nat,k≤len∧i=k∧IU wr w (some ⟨w,0,none⟩) len len xs k∧Below w w wr) (fun i _=>len - (intOf i).toNat)
 case atStart=>exact ⟨0,Nat.zero_le _,rfl,hown1,hB1⟩
 case round =>
  have A2a:=trivial;exact LQ
theorem xV (a:Option Addr) (len cap:Nat) (a':Option Addr) (cap':Nat) (xs:List Ev) (w:World) (hs:I8 w w a len xs) (hs':I8 w w a' len xs):Calls Tryz.prog 59 #[.slice a len cap, .slice a' len cap'] w fun e w' =>
 e = .returned true∧Below w w w':=by
 have hl:=hs.lenB
 go_enter Tryz.func59,Tryz.ntmps59
 go_wp2
 go_loopw [5] (fun i wr=>∃ k:Nat,k≤len∧i=k∧Below w w wr) (fun i _=>len - (intOf i).toNat)
 case atStart=>exact ⟨0,Nat.zero_le _,rfl,Below.refl _ _⟩
 case round =>
  have A2b:=trivial;exact IZ
structure St where
 kind:Int
 ev:Ev
 keep:List Int
 lo:Int
 hi:Int
 step:Int
 mn:Int
 mx:Int
structure Cn where
 id:Int
 size:Int
 loc:Int
 rem:Int
 base:Int
 ppm:Int
 score:Int
def Cn.enc (r:Cn):List Value := [r.id,r.size,r.loc,r.rem,r.base,r.ppm,r.score]
def Cn.ok (r:Cn):Prop:=AE r.id∧AE r.size∧AE r.loc∧AE r.rem∧AE r.base∧AE r.ppm∧AE r.score
theorem Cn.enc_len (r:Cn):r.enc.length=7:=rfl
abbrev Iv:=FS Cn.enc 7 Cn.ok
theorem D4:(Tryz.prog.info? 182).map (fun i=>(i.zero,i.size,i.bytes))=some (some (.agg #[I0,I0,I0,I0,I0,I0,I0]),7,56):=Cr
abbrev tm:=OF Cn.enc 7 Cn.ok 182
theorem Iv.cells {w:World} {B:Nat} {a:Option Addr} {len:Nat} {xs:List Cn} (h:Iv w B a len xs) {k:Nat} (hk:k<len) :
 ∃ g off x0 x1 x2 x3 x4 x5 x6,a=some ⟨g,off,none⟩∧g<B∧w.cell? ⟨g,off+k*7,none⟩=some (.int .i64 x0)∧w.cell? ⟨g,off+k*7+1,none⟩=some (.int .i64 x1)∧w.cell? ⟨g,off+k*7+2,none⟩=some (.int .i64 x2)∧w.cell? ⟨g,off+k*7+3,none⟩=some (.int .i64 x3)∧w.cell? ⟨g,off+k*7+4,none⟩=some (.int .i64 x4)∧w.cell? ⟨g,off+k*7+5,none⟩=some (.int .i64 x5)∧w.cell? ⟨g,off+k*7+6,none⟩=some (.int .i64 x6) ∧
  AE x0∧AE x1∧AE x2∧AE x3∧AE x4∧AE x5∧AE x6∧Hid (xs[k]? = some ⟨x0,x1,x2,x3,x4,x5,x6⟩)∧Hid (xs.take (k+1)=xs.take k ++ [⟨x0,x1,x2,x3,x4,x5,x6⟩]):=by
 obtain ⟨g,off,r,e,hb,hc,hok,hx,ht⟩:=h.at_ hk
 obtain ⟨x0,x1,x2,x3,x4,x5,x6⟩:=r
 obtain ⟨o0,o1,o2,o3,o4,o5,o6⟩:=hok
 exact ⟨g,off,x0,x1,x2,x3,x4,x5,x6,e,hb,hc 0 _ rfl,hc 1 _ rfl,hc 2 _ rfl,hc 3 _ rfl,hc 4 _ rfl,hc 5 _ rfl,hc 6 _ rfl,o0,o1,o2,o3,o4,o5,o6,hx,ht⟩
theorem A0N (a:Option Addr) (len cap:Nat) (n:Int) (w:World) (hl:len≤9223372036854775807) (h0:0≤n) (h1:n≤1048576):Calls Tryz.prog 144 #[.slice a len cap,n] w fun e w' =>
 e = .returned (.int .i64 (if n - (len:Int)<0 then -1 else n - len))∧w=w':=by
 by_cases h:n - (len:Int)<0
 ·rw [if_pos h];go_enter Tryz.func144,Tryz.ntmps144
  exact IY
 rw [if_neg h]
 go_enter Tryz.func144,Tryz.ntmps144
 go_wp2
 go_ret
 exact ⟨rfl,rfl⟩
def Gz (w:World) (B:Nat) (a:Option Addr) (len cap:Nat) (xs:List Cn) (k:Nat):Prop :=
 ∃ rest:List Value,w.ownsRow B 182 7 (.slice a len cap) len ((xs.take k).flatMap Cn.enc ++ rest)∧rest.length=(len - k)*7
theorem Gz.open_ {w:World} {B:Nat} {a:Option Addr} {len cap:Nat} {xs:List Cn} {k:Nat} (h:Gz w B a len cap xs k) (hx:xs.length=len) (hk:k<len) :
 ∃ g y0 y1 y2 y3 y4 y5 y6 rest,a=some ⟨g,0,none⟩∧B≤g∧rest.length=(len - (k+1))*7∧w.ownsRow B 182 7 (.slice (some ⟨g,0,none⟩) len cap) len ((xs.take k).flatMap Cn.enc ++ [y0,y1,y2,y3,y4,y5,y6] ++ rest) ∧
  w.cell? ⟨g,k*7,none⟩=some y0∧w.cell? ⟨g,k*7+1,none⟩=some y1∧w.cell? ⟨g,k*7+2,none⟩=some y2∧w.cell? ⟨g,k*7+3,none⟩=some y3∧w.cell? ⟨g,k*7+4,none⟩=some y4∧w.cell? ⟨g,k*7+5,none⟩=some y5∧w.cell? ⟨g,k*7+6,none⟩=some y6∧∀ o,w.frozen? ⟨g,o,none⟩=false:=by
 obtain ⟨rest,hown,hr⟩:=h
 obtain ⟨g,rfl,hg⟩:=Kz w hown oM
 obtain ⟨y0,y1,y2,y3,y4,y5,y6,r',rfl⟩:∃ y0 y1 y2 y3 y4 y5 y6 r',rest=y0 :: y1 :: y2 :: y3 :: y4 :: y5 :: y6 :: r':=by
  exact Qu
 have hl:((xs.take k).flatMap Cn.enc).length=k*7:=by rw [DN Cn.enc_len];simp;omega
 have hkk:k*7+7≤len*7:=AA
 have get:∀ j v,[y0,y1,y2,y3,y4,y5,y6][j]? = some v→w.cell? ⟨g,k*7+j,none⟩=some v:=by
  exact Qv
 refine ⟨g,y0,y1,y2,y3,y4,y5,y6,r',rfl,hg,?_,DW,get 0 _ rfl,get 1 _ rfl,get 2 _ rfl,get 3 _ rfl,get 4 _ rfl,get 5 _ rfl,get 6 _ rfl,fun o=>hown.frozenAt o⟩
 simp at hr
 omega
theorem Gz.put {w:World} {B g len cap:Nat} {xs:List Cn} {k:Nat} {r:Cn} {y0 y1 y2 y3 y4 y5 y6 v0 v1 v2 v3 v4 v5 v6:Value} {rest:List Value} (hown:w.ownsRow B 182 7 (.slice (some ⟨g,0,none⟩) len cap) len ((xs.take k).flatMap Cn.enc ++ [y0,y1,y2,y3,y4,y5,y6] ++ rest)) (hr:rest.length=(len - (k+1))*7) (hx:xs.length=len) (hk:k<len)
 (ht:xs.take (k+1)=xs.take k ++ [r]) (hv:r.enc = [v0,v1,v2,v3,v4,v5,v6]):Gz (((((((w.setCell ⟨g,k*7,none⟩ v0).setCell ⟨g,k*7+1,none⟩ v1).setCell ⟨g,k*7+2,none⟩ v2).setCell ⟨g,k*7+3,none⟩ v3).setCell ⟨g,k*7+4,none⟩ v4).setCell ⟨g,k*7+5,none⟩ v5).setCell ⟨g,k*7+6,none⟩ v6) B (some ⟨g,0,none⟩) len cap xs (k+1):=by
 have hl:((xs.take k).flatMap Cn.enc).length=k*7:=by rw [DN Cn.enc_len];simp;omega
 replace hown:w.ownsRow B 182 7 (.slice (some ⟨g,0,none⟩) len cap) len (((xs.take k).flatMap Cn.enc) ++ y0 :: (y1 :: y2 :: y3 :: y4 :: y5 :: y6 :: rest)):=DW
 have s0:=(hown.stored (k*7) v0).1
 rw [BR ((xs.take k).flatMap Cn.enc) (y1 :: y2 :: y3 :: y4 :: y5 :: y6 :: rest) y0 v0 (k*7) BT] at s0
 have s1:=(s0.stored (k*7+1) v1).1
 rw [BR (((xs.take k).flatMap Cn.enc) ++ [v0]) (y2 :: y3 :: y4 :: y5 :: y6 :: rest) y1 v1 (k*7+1) BT] at s1
 have s2:=(s1.stored (k*7+2) v2).1
 rw [BR ((((xs.take k).flatMap Cn.enc) ++ [v0]) ++ [v1]) (y3 :: y4 :: y5 :: y6 :: rest) y2 v2 (k*7+2) BT] at s2
 have s3:=(s2.stored (k*7+3) v3).1
 rw [BR (((((xs.take k).flatMap Cn.enc) ++ [v0]) ++ [v1]) ++ [v2]) (y4 :: y5 :: y6 :: rest) y3 v3 (k*7+3) BT] at s3
 have s4:=(s3.stored (k*7+4) v4).1
 rw [BR ((((((xs.take k).flatMap Cn.enc) ++ [v0]) ++ [v1]) ++ [v2]) ++ [v3]) (y5 :: y6 :: rest) y4 v4 (k*7+4) BT] at s4
 have s5:=(s4.stored (k*7+5) v5).1
 rw [BR (((((((xs.take k).flatMap Cn.enc) ++ [v0]) ++ [v1]) ++ [v2]) ++ [v3]) ++ [v4]) (y6 :: rest) y5 v5 (k*7+5) BT] at s5
 have s6:=(s5.stored (k*7+6) v6).1
 rw [BR ((((((((xs.take k).flatMap Cn.enc) ++ [v0]) ++ [v1]) ++ [v2]) ++ [v3]) ++ [v4]) ++ [v5]) (rest) y6 v6 (k*7+6) BT] at s6
 refine ⟨rest,?_,hr⟩
 rw [ht,List.flatMap_append,List.flatMap_cons,List.flatMap_nil,hv,List.append_nil]
 simpa using s6
theorem tb (a:Option Addr) (len cap:Nat) (xs:List Cn) (w:World) (hs:Iv w w a len xs) (hlen:len≤1048576):Calls Tryz.prog 165 #[.slice a len cap] w fun e w' =>
 (∃ a c,e = .returned (.slice a len c)∧tm w' w a len c xs)∧Below w w w':=by
 obtain ⟨i0,hi,hz0,hz1,hz2⟩:=info_parts D4
 go_enter Tryz.func165,Tryz.ntmps165
 go_wp2_with (at_make;refine wpList_make_full w rfl _ _ _ rfl w 182 i0 (.agg #[I0,I0,I0,I0,I0,I0,I0]) 7 Tryz.underlying50 hi hz0 hz1 .i64 .i64 _ _ len rfl rfl rfl rfl ?b2 ?b3 (Nat.le_refl _) ?_)
 case b2=>rw [hz2];omega
 case b3=>unfold maxLen;omega
 intro w1 hown hgr
 have hB1:Below w w w1:=(Below.refl _ _).grown hgr (Nat.le_refl _) sM
 have hxl:xs.length=len:=hs.1
 have hown1:Gz w1 w (some ⟨w,0,none⟩) len len xs 0:=⟨_,DW,J8⟩
 clear hown hgr
 have Hxl:=lH hxl;clear hxl
 go_wp2
 go_loopw [4] (fun i wr=>∃ k:Nat,k≤len∧i=k∧Gz wr w (some ⟨w,0,none⟩) len len xs k∧Below w w wr) (fun i _=>len - (intOf i).toNat)
 case atStart=>exact ⟨0,Nat.zero_le _,rfl,hown1,hB1⟩
 case round =>
  have A2c:=trivial;exact LQ
theorem yV (a:Option Addr) (len cap:Nat) (a':Option Addr) (cap':Nat) (xs:List Cn) (w:World) (hs:Iv w w a len xs) (hs':Iv w w a' len xs):Calls Tryz.prog 186 #[.slice a len cap, .slice a' len cap'] w fun e w' =>
 e = .returned true∧Below w w w':=by
 have hl:=hs.lenB
 go_enter Tryz.func186,Tryz.ntmps186
 go_wp2
 go_loopw [5] (fun i wr=>∃ k:Nat,k≤len∧i=k∧Below w w wr) (fun i _=>len - (intOf i).toNat)
 case atStart=>exact ⟨0,Nat.zero_le _,rfl,Below.refl _ _⟩
 case round =>
  have A2d:=trivial;exact IZ
structure Ht where
 key:Int
 inn:Int
 out:Int
 ain:Int
 aout:Int
 kept:Bool
 age:Int
def Ht.enc (r:Ht):List Value := [r.key,r.inn,r.out,r.ain,r.aout,r.kept,r.age]
def Ht.ok (r:Ht):Prop:=AE r.key∧AE r.inn∧AE r.out∧AE r.ain∧AE r.aout∧True∧AE r.age
theorem Ht.enc_len (r:Ht):r.enc.length=7:=rfl
abbrev It:=FS Ht.enc 7 Ht.ok
theorem Hz:(Tryz.prog.info? 184).map (fun i=>(i.zero,i.size,i.bytes))=some (some (.agg #[I0,I0,I0,I0,I0,false,I0]),7,56):=Cr
abbrev HtO:=OF Ht.enc 7 Ht.ok 184
theorem It.cells {w:World} {B:Nat} {a:Option Addr} {len:Nat} {xs:List Ht} (h:It w B a len xs) {k:Nat} (hk:k<len) :
 ∃ g off x0 x1 x2 x3 x4 x5 x6,a=some ⟨g,off,none⟩∧g<B∧w.cell? ⟨g,off+k*7,none⟩=some (.int .i64 x0)∧w.cell? ⟨g,off+k*7+1,none⟩=some (.int .i64 x1)∧w.cell? ⟨g,off+k*7+2,none⟩=some (.int .i64 x2)∧w.cell? ⟨g,off+k*7+3,none⟩=some (.int .i64 x3)∧w.cell? ⟨g,off+k*7+4,none⟩=some (.int .i64 x4)∧w.cell? ⟨g,off+k*7+5,none⟩=some (.bool x5)∧w.cell? ⟨g,off+k*7+6,none⟩=some (.int .i64 x6) ∧
  AE x0∧AE x1∧AE x2∧AE x3∧AE x4∧True∧AE x6∧Hid (xs[k]? = some ⟨x0,x1,x2,x3,x4,x5,x6⟩)∧Hid (xs.take (k+1)=xs.take k ++ [⟨x0,x1,x2,x3,x4,x5,x6⟩]):=by
 obtain ⟨g,off,r,e,hb,hc,hok,hx,ht⟩:=h.at_ hk
 obtain ⟨x0,x1,x2,x3,x4,x5,x6⟩:=r
 obtain ⟨o0,o1,o2,o3,o4,o5,o6⟩:=hok
 exact ⟨g,off,x0,x1,x2,x3,x4,x5,x6,e,hb,hc 0 _ rfl,hc 1 _ rfl,hc 2 _ rfl,hc 3 _ rfl,hc 4 _ rfl,hc 5 _ rfl,hc 6 _ rfl,o0,o1,o2,o3,o4,o5,o6,hx,ht⟩
theorem wB (a:Option Addr) (len cap:Nat) (n:Int) (w:World) (hl:len≤9223372036854775807) (h0:0≤n) (h1:n≤1048576):Calls Tryz.prog 145 #[.slice a len cap,n] w fun e w' =>
 e = .returned (.int .i64 (if n - (len:Int)<0 then -1 else n - len))∧w=w':=by
 by_cases h:n - (len:Int)<0
 ·rw [if_pos h];go_enter Tryz.func145,Tryz.ntmps145
  exact IY
 rw [if_neg h]
 go_enter Tryz.func145,Tryz.ntmps145
 go_wp2
 go_ret
 exact ⟨rfl,rfl⟩
def IH (w:World) (B:Nat) (a:Option Addr) (len cap:Nat) (xs:List Ht) (k:Nat):Prop :=
 ∃ rest:List Value,w.ownsRow B 184 7 (.slice a len cap) len ((xs.take k).flatMap Ht.enc ++ rest)∧rest.length=(len - k)*7
theorem IH.open_ {w:World} {B:Nat} {a:Option Addr} {len cap:Nat} {xs:List Ht} {k:Nat} (h:IH w B a len cap xs k) (hx:xs.length=len) (hk:k<len) :
 ∃ g y0 y1 y2 y3 y4 y5 y6 rest,a=some ⟨g,0,none⟩∧B≤g∧rest.length=(len - (k+1))*7∧w.ownsRow B 184 7 (.slice (some ⟨g,0,none⟩) len cap) len ((xs.take k).flatMap Ht.enc ++ [y0,y1,y2,y3,y4,y5,y6] ++ rest) ∧
  w.cell? ⟨g,k*7,none⟩=some y0∧w.cell? ⟨g,k*7+1,none⟩=some y1∧w.cell? ⟨g,k*7+2,none⟩=some y2∧w.cell? ⟨g,k*7+3,none⟩=some y3∧w.cell? ⟨g,k*7+4,none⟩=some y4∧w.cell? ⟨g,k*7+5,none⟩=some y5∧w.cell? ⟨g,k*7+6,none⟩=some y6∧∀ o,w.frozen? ⟨g,o,none⟩=false:=by
 obtain ⟨rest,hown,hr⟩:=h
 obtain ⟨g,rfl,hg⟩:=Kz w hown oM
 obtain ⟨y0,y1,y2,y3,y4,y5,y6,r',rfl⟩:∃ y0 y1 y2 y3 y4 y5 y6 r',rest=y0 :: y1 :: y2 :: y3 :: y4 :: y5 :: y6 :: r':=by
  exact Qu
 have hl:((xs.take k).flatMap Ht.enc).length=k*7:=by rw [DN Ht.enc_len];simp;omega
 have hkk:k*7+7≤len*7:=AA
 have get:∀ j v,[y0,y1,y2,y3,y4,y5,y6][j]? = some v→w.cell? ⟨g,k*7+j,none⟩=some v:=by
  exact Qv
 refine ⟨g,y0,y1,y2,y3,y4,y5,y6,r',rfl,hg,?_,DW,get 0 _ rfl,get 1 _ rfl,get 2 _ rfl,get 3 _ rfl,get 4 _ rfl,get 5 _ rfl,get 6 _ rfl,fun o=>hown.frozenAt o⟩
 simp at hr
 omega
theorem IH.put {w:World} {B g len cap:Nat} {xs:List Ht} {k:Nat} {r:Ht} {y0 y1 y2 y3 y4 y5 y6 v0 v1 v2 v3 v4 v5 v6:Value} {rest:List Value} (hown:w.ownsRow B 184 7 (.slice (some ⟨g,0,none⟩) len cap) len ((xs.take k).flatMap Ht.enc ++ [y0,y1,y2,y3,y4,y5,y6] ++ rest)) (hr:rest.length=(len - (k+1))*7) (hx:xs.length=len) (hk:k<len)
 (ht:xs.take (k+1)=xs.take k ++ [r]) (hv:r.enc = [v0,v1,v2,v3,v4,v5,v6]):IH (((((((w.setCell ⟨g,k*7,none⟩ v0).setCell ⟨g,k*7+1,none⟩ v1).setCell ⟨g,k*7+2,none⟩ v2).setCell ⟨g,k*7+3,none⟩ v3).setCell ⟨g,k*7+4,none⟩ v4).setCell ⟨g,k*7+5,none⟩ v5).setCell ⟨g,k*7+6,none⟩ v6) B (some ⟨g,0,none⟩) len cap xs (k+1):=by
 have hl:((xs.take k).flatMap Ht.enc).length=k*7:=by rw [DN Ht.enc_len];simp;omega
 replace hown:w.ownsRow B 184 7 (.slice (some ⟨g,0,none⟩) len cap) len (((xs.take k).flatMap Ht.enc) ++ y0 :: (y1 :: y2 :: y3 :: y4 :: y5 :: y6 :: rest)):=DW
 have s0:=(hown.stored (k*7) v0).1
 rw [BR ((xs.take k).flatMap Ht.enc) (y1 :: y2 :: y3 :: y4 :: y5 :: y6 :: rest) y0 v0 (k*7) BT] at s0
 have s1:=(s0.stored (k*7+1) v1).1
 rw [BR (((xs.take k).flatMap Ht.enc) ++ [v0]) (y2 :: y3 :: y4 :: y5 :: y6 :: rest) y1 v1 (k*7+1) BT] at s1
 have s2:=(s1.stored (k*7+2) v2).1
 rw [BR ((((xs.take k).flatMap Ht.enc) ++ [v0]) ++ [v1]) (y3 :: y4 :: y5 :: y6 :: rest) y2 v2 (k*7+2) BT] at s2
 have s3:=(s2.stored (k*7+3) v3).1
 rw [BR (((((xs.take k).flatMap Ht.enc) ++ [v0]) ++ [v1]) ++ [v2]) (y4 :: y5 :: y6 :: rest) y3 v3 (k*7+3) BT] at s3
 have s4:=(s3.stored (k*7+4) v4).1
 rw [BR ((((((xs.take k).flatMap Ht.enc) ++ [v0]) ++ [v1]) ++ [v2]) ++ [v3]) (y5 :: y6 :: rest) y4 v4 (k*7+4) BT] at s4
 have s5:=(s4.stored (k*7+5) v5).1
 rw [BR (((((((xs.take k).flatMap Ht.enc) ++ [v0]) ++ [v1]) ++ [v2]) ++ [v3]) ++ [v4]) (y6 :: rest) y5 v5 (k*7+5) BT] at s5
 have s6:=(s5.stored (k*7+6) v6).1
 rw [BR ((((((((xs.take k).flatMap Ht.enc) ++ [v0]) ++ [v1]) ++ [v2]) ++ [v3]) ++ [v4]) ++ [v5]) (rest) y6 v6 (k*7+6) BT] at s6
 refine ⟨rest,?_,hr⟩
 rw [ht,List.flatMap_append,List.flatMap_cons,List.flatMap_nil,hv,List.append_nil]
 simpa using s6
theorem xS (a:Option Addr) (len cap:Nat) (xs:List Ht) (w:World) (hs:It w w a len xs) (hlen:len≤1048576):Calls Tryz.prog 166 #[.slice a len cap] w fun e w' =>
 (∃ a c,e = .returned (.slice a len c)∧HtO w' w a len c xs)∧Below w w w':=by
 obtain ⟨i0,hi,hz0,hz1,hz2⟩:=info_parts Hz
 go_enter Tryz.func166,Tryz.ntmps166
 go_wp2_with (at_make;refine wpList_make_full w rfl _ _ _ rfl w 184 i0 (.agg #[I0,I0,I0,I0,I0,false,I0]) 7 Tryz.underlying51 hi hz0 hz1 .i64 .i64 _ _ len rfl rfl rfl rfl ?b2 ?b3 (Nat.le_refl _) ?_)
 case b2=>rw [hz2];omega
 case b3=>unfold maxLen;omega
 intro w1 hown hgr
 have hB1:Below w w w1:=(Below.refl _ _).grown hgr (Nat.le_refl _) sM
 have hxl:xs.length=len:=hs.1
 have hown1:IH w1 w (some ⟨w,0,none⟩) len len xs 0:=⟨_,DW,J8⟩
 clear hown hgr
 have Hxl:=lH hxl;clear hxl
 go_wp2
 go_loopw [4] (fun i wr=>∃ k:Nat,k≤len∧i=k∧IH wr w (some ⟨w,0,none⟩) len len xs k∧Below w w wr) (fun i _=>len - (intOf i).toNat)
 case atStart=>exact ⟨0,Nat.zero_le _,rfl,hown1,hB1⟩
 case round =>
  have A2e:=trivial;exact LQ
theorem xE (a:Option Addr) (len cap:Nat) (a':Option Addr) (cap':Nat) (xs:List Ht) (w:World) (hs:It w w a len xs) (hs':It w w a' len xs):Calls Tryz.prog 187 #[.slice a len cap, .slice a' len cap'] w fun e w' =>
 e = .returned true∧Below w w w':=by
 have hl:=hs.lenB
 go_enter Tryz.func187,Tryz.ntmps187
 go_wp2
 go_loopw [5] (fun i wr=>∃ k:Nat,k≤len∧i=k∧Below w w wr) (fun i _=>len - (intOf i).toNat)
 case atStart=>exact ⟨0,Nat.zero_le _,rfl,Below.refl _ _⟩
 case round =>
  have A2f:=trivial;exact IZ
structure Ci where
 key:Int
 frm:Int
 tw:Int
 amt:Int
 fee:Int
def Ci.enc (r:Ci):List Value := [r.key,r.frm,r.tw,r.amt,r.fee]
def Ci.ok (r:Ci):Prop:=AE r.key∧AE r.frm∧AE r.tw∧AE r.amt∧AE r.fee
theorem Ci.enc_len (r:Ci):r.enc.length=5:=rfl
abbrev JE:=FS Ci.enc 5 Ci.ok
theorem IM:(Tryz.prog.info? 186).map (fun i=>(i.zero,i.size,i.bytes))=some (some (.agg #[I0,I0,I0,I0,I0]),5,40):=Cr
abbrev xG:=OF Ci.enc 5 Ci.ok 186
theorem JE.cells {w:World} {B:Nat} {a:Option Addr} {len:Nat} {xs:List Ci} (h:JE w B a len xs) {k:Nat} (hk:k<len) :
 ∃ g off x0 x1 x2 x3 x4,a=some ⟨g,off,none⟩∧g<B∧w.cell? ⟨g,off+k*5,none⟩=some (.int .i64 x0)∧w.cell? ⟨g,off+k*5+1,none⟩=some (.int .i64 x1)∧w.cell? ⟨g,off+k*5+2,none⟩=some (.int .i64 x2)∧w.cell? ⟨g,off+k*5+3,none⟩=some (.int .i64 x3)∧w.cell? ⟨g,off+k*5+4,none⟩=some (.int .i64 x4) ∧
  AE x0∧AE x1∧AE x2∧AE x3∧AE x4∧Hid (xs[k]? = some ⟨x0,x1,x2,x3,x4⟩)∧Hid (xs.take (k+1)=xs.take k ++ [⟨x0,x1,x2,x3,x4⟩]):=by
 obtain ⟨g,off,r,e,hb,hc,hok,hx,ht⟩:=h.at_ hk
 obtain ⟨x0,x1,x2,x3,x4⟩:=r
 obtain ⟨o0,o1,o2,o3,o4⟩:=hok
 exact ⟨g,off,x0,x1,x2,x3,x4,e,hb,hc 0 _ rfl,hc 1 _ rfl,hc 2 _ rfl,hc 3 _ rfl,hc 4 _ rfl,o0,o1,o2,o3,o4,hx,ht⟩
theorem A1c (a:Option Addr) (len cap:Nat) (n:Int) (w:World) (hl:len≤9223372036854775807) (h0:0≤n) (h1:n≤1048576):Calls Tryz.prog 146 #[.slice a len cap,n] w fun e w' =>
 e = .returned (.int .i64 (if n - (len:Int)<0 then -1 else n - len))∧w=w':=by
 by_cases h:n - (len:Int)<0
 ·rw [if_pos h];go_enter Tryz.func146,Tryz.ntmps146
  exact IY
 rw [if_neg h]
 go_enter Tryz.func146,Tryz.ntmps146
 go_wp2
 go_ret
 exact ⟨rfl,rfl⟩
def HV (w:World) (B:Nat) (a:Option Addr) (len cap:Nat) (xs:List Ci) (k:Nat):Prop :=
 ∃ rest:List Value,w.ownsRow B 186 5 (.slice a len cap) len ((xs.take k).flatMap Ci.enc ++ rest)∧rest.length=(len - k)*5
theorem HV.open_ {w:World} {B:Nat} {a:Option Addr} {len cap:Nat} {xs:List Ci} {k:Nat} (h:HV w B a len cap xs k) (hx:xs.length=len) (hk:k<len) :
 ∃ g y0 y1 y2 y3 y4 rest,a=some ⟨g,0,none⟩∧B≤g∧rest.length=(len - (k+1))*5∧w.ownsRow B 186 5 (.slice (some ⟨g,0,none⟩) len cap) len ((xs.take k).flatMap Ci.enc ++ [y0,y1,y2,y3,y4] ++ rest) ∧
  w.cell? ⟨g,k*5,none⟩=some y0∧w.cell? ⟨g,k*5+1,none⟩=some y1∧w.cell? ⟨g,k*5+2,none⟩=some y2∧w.cell? ⟨g,k*5+3,none⟩=some y3∧w.cell? ⟨g,k*5+4,none⟩=some y4∧∀ o,w.frozen? ⟨g,o,none⟩=false:=by
 obtain ⟨rest,hown,hr⟩:=h
 obtain ⟨g,rfl,hg⟩:=Kz w hown oM
 obtain ⟨y0,y1,y2,y3,y4,r',rfl⟩:∃ y0 y1 y2 y3 y4 r',rest=y0 :: y1 :: y2 :: y3 :: y4 :: r':=by
  have:5≤rest.length:=AA
  match rest,this with
  | y0 :: y1 :: y2 :: y3 :: y4 :: r',_=>exact ⟨y0,y1,y2,y3,y4,r',rfl⟩
 have hl:((xs.take k).flatMap Ci.enc).length=k*5:=by rw [DN Ci.enc_len];simp;omega
 have hkk:k*5+5≤len*5:=AA
 have get:∀ j v,[y0,y1,y2,y3,y4][j]? = some v→w.cell? ⟨g,k*5+j,none⟩=some v:=by
  intro j v hv;have hj:j<5:=(List.getElem?_eq_some_iff.1 hv).1;rw [hown.cellAt (k*5+j) oM,List.getElem?_append_right oM,hl,show k*5+j - k*5=j by omega];rw [show (y0 :: y1 :: y2 :: y3 :: y4 :: r') = [y0,y1,y2,y3,y4] ++ r' from rfl,List.getElem?_append_left Qw];exact hv
 refine ⟨g,y0,y1,y2,y3,y4,r',rfl,hg,?_,DW,get 0 _ rfl,get 1 _ rfl,get 2 _ rfl,get 3 _ rfl,get 4 _ rfl,fun o=>hown.frozenAt o⟩
 simp at hr
 omega
theorem HV.put {w:World} {B g len cap:Nat} {xs:List Ci} {k:Nat} {r:Ci} {y0 y1 y2 y3 y4 v0 v1 v2 v3 v4:Value} {rest:List Value} (hown:w.ownsRow B 186 5 (.slice (some ⟨g,0,none⟩) len cap) len ((xs.take k).flatMap Ci.enc ++ [y0,y1,y2,y3,y4] ++ rest)) (hr:rest.length=(len - (k+1))*5) (hx:xs.length=len) (hk:k<len)
 (ht:xs.take (k+1)=xs.take k ++ [r]) (hv:r.enc = [v0,v1,v2,v3,v4]):HV (((((w.setCell ⟨g,k*5,none⟩ v0).setCell ⟨g,k*5+1,none⟩ v1).setCell ⟨g,k*5+2,none⟩ v2).setCell ⟨g,k*5+3,none⟩ v3).setCell ⟨g,k*5+4,none⟩ v4) B (some ⟨g,0,none⟩) len cap xs (k+1):=by
 have hl:((xs.take k).flatMap Ci.enc).length=k*5:=by rw [DN Ci.enc_len];simp;omega
 replace hown:w.ownsRow B 186 5 (.slice (some ⟨g,0,none⟩) len cap) len (((xs.take k).flatMap Ci.enc) ++ y0 :: (y1 :: y2 :: y3 :: y4 :: rest)):=DW
 have s0:=(hown.stored (k*5) v0).1
 rw [BR ((xs.take k).flatMap Ci.enc) (y1 :: y2 :: y3 :: y4 :: rest) y0 v0 (k*5) BT] at s0
 have s1:=(s0.stored (k*5+1) v1).1
 rw [BR (((xs.take k).flatMap Ci.enc) ++ [v0]) (y2 :: y3 :: y4 :: rest) y1 v1 (k*5+1) BT] at s1
 have s2:=(s1.stored (k*5+2) v2).1
 rw [BR ((((xs.take k).flatMap Ci.enc) ++ [v0]) ++ [v1]) (y3 :: y4 :: rest) y2 v2 (k*5+2) BT] at s2
 have s3:=(s2.stored (k*5+3) v3).1
 rw [BR (((((xs.take k).flatMap Ci.enc) ++ [v0]) ++ [v1]) ++ [v2]) (y4 :: rest) y3 v3 (k*5+3) BT] at s3
 have s4:=(s3.stored (k*5+4) v4).1
 rw [BR ((((((xs.take k).flatMap Ci.enc) ++ [v0]) ++ [v1]) ++ [v2]) ++ [v3]) (rest) y4 v4 (k*5+4) BT] at s4
 refine ⟨rest,?_,hr⟩
 rw [ht,List.flatMap_append,List.flatMap_cons,List.flatMap_nil,hv,List.append_nil]
 simpa using s4
theorem A0O (a:Option Addr) (len cap:Nat) (xs:List Ci) (w:World) (hs:JE w w a len xs) (hlen:len≤1048576):Calls Tryz.prog 167 #[.slice a len cap] w fun e w' =>
 (∃ a c,e = .returned (.slice a len c)∧xG w' w a len c xs)∧Below w w w':=by
 obtain ⟨i0,hi,hz0,hz1,hz2⟩:=info_parts IM
 go_enter Tryz.func167,Tryz.ntmps167
 go_wp2_with (at_make;refine wpList_make_full w rfl _ _ _ rfl w 186 i0 (.agg #[I0,I0,I0,I0,I0]) 5 Tryz.underlying52 hi hz0 hz1 .i64 .i64 _ _ len rfl rfl rfl rfl ?b2 ?b3 (Nat.le_refl _) ?_)
 case b2=>rw [hz2];omega
 case b3=>unfold maxLen;omega
 intro w1 hown hgr
 have hB1:Below w w w1:=(Below.refl _ _).grown hgr (Nat.le_refl _) sM
 have hxl:xs.length=len:=hs.1
 have hown1:HV w1 w (some ⟨w,0,none⟩) len len xs 0:=⟨_,DW,J8⟩
 clear hown hgr
 have Hxl:=lH hxl;clear hxl
 go_wp2
 go_loopw [4] (fun i wr=>∃ k:Nat,k≤len∧i=k∧HV wr w (some ⟨w,0,none⟩) len len xs k∧Below w w wr) (fun i _=>len - (intOf i).toNat)
 case atStart=>exact ⟨0,Nat.zero_le _,rfl,hown1,hB1⟩
 case round =>
  have A2g:=trivial;exact LQ
theorem xj (a:Option Addr) (len cap:Nat) (a':Option Addr) (cap':Nat) (xs:List Ci) (w:World) (hs:JE w w a len xs) (hs':JE w w a' len xs):Calls Tryz.prog 188 #[.slice a len cap, .slice a' len cap'] w fun e w' =>
 e = .returned true∧Below w w w':=by
 have hl:=hs.lenB
 go_enter Tryz.func188,Tryz.ntmps188
 go_wp2
 go_loopw [5] (fun i wr=>∃ k:Nat,k≤len∧i=k∧Below w w wr) (fun i _=>len - (intOf i).toNat)
 case atStart=>exact ⟨0,Nat.zero_le _,rfl,Below.refl _ _⟩
 case round =>
  have A2h:=trivial;exact IZ
def Fa (k:Int):List Bool :=
 if k=1 then [false,false,false,true,false,false] else if k=2∨k=4 then [false,true,false,true,true,false] else if k=3 then [false,true,false,false,true,false] else if k=5 then [true,true,true,true,false,true] else if k=9 then [true,true,true,true,true,false] else if k=8 then [false,false,false,false,false,false] else [true,false,false,false,false,false]
theorem Wh (k:Int):(Fa k).length=6:=by
 unfold Fa;repeat' split
 all_goals rfl
def DB (h:Bool) (n lo hi:Int):Bool:=if h=true then decide (lo≤n∧n≤hi) else decide (n=0)
def Ah (k key ch too amt fee:Int) (yes:Bool):Bool :=
 decide (1≤k∧k≤11) && (match Fa k with
  | [h0,h1,h2,h3,h4,h5]=>DB h0 key 1 1000000 && DB h1 ch 1 99 && DB h2 too 1 99 && !(h2 && decide (ch=too)) && DB h3 amt (if k=4 then 0 else 1) 1125899906842624 && DB h4 fee 0 (if k=4 then 1000000 else 1125899906842624) && (h5 || !yes)
  | _=>false)
theorem A1k (h:Bool) (n lo hi:Int) (w:World):Calls Tryz.prog 241 #[h,n,lo,hi] w fun e w'=>e = .returned (DB h n lo hi)∧w=w':=by
 cases h
 ·go_enter Tryz.func241,Tryz.ntmps241
  go_wp2
  all_goals
   go_ret
   exact ⟨Ag (by first | rfl | (simp [DB];done) | (simp_all [DB];done)),rfl⟩
 go_enter Tryz.func241,Tryz.ntmps241
 go_wp2
 all_goals
  go_ret
  exact ⟨Ag (by simp_all [DB]<;>omega),rfl⟩
abbrev Hw:=FS (fun (x:Bool) => [Value.bool x]) 1 (fun _=>True)
theorem Hw.lit (w:World) (xs:List Bool) (cs:Array Value) (t:TypeId) (h:cs.toList=xs.map Value.bool) (hn:xs.length=6) (g:Nat) (hg:w.heap.size=g) :
 Hw (w.alloc (.cells cs t)) (w.alloc (.cells cs t)).heap.size (some ⟨g,0,none⟩) 6 xs:=by
 subst hg
 refine ⟨hn,FD,AP,fun i x hx=>⟨w,0,rfl,AP,fun j v hv => ?_⟩⟩
 match j,hv with
 | 0,hv =>
  simp at hv;subst hv;rw [show 0+i*1+0=i by omega,World.cell?_alloc_at _ _ _ _ rfl];have:cs[i]? = (cs.toList)[i]? := AP
  rw [this,h,List.getElem?_map,hx];rfl
 | j+1,hv=>simp at hv
theorem wN (k:Int) (w:World):Calls Tryz.prog 240 #[k] w fun e w'=>(∃ g,e = .returned (.slice (some ⟨g,0,none⟩) 6 6)∧Hw w' w' (some ⟨g,0,none⟩) 6 (Fa k))∧Below w w w':=by
 rcases (show k=1∨k=2∨k=4∨k=3∨k=5∨k=9∨k=8∨(k≠1∧k≠2∧k≠4∧k≠3∧k≠5∧k≠9∧k≠8) by omega) with rfl | rfl | rfl | rfl | rfl | rfl | rfl | ⟨h1,h2,h4,h3,h5,h9,h8⟩
 iterate 7
  ·(go_enter Tryz.func240,Tryz.ntmps240);go_wp2;refine bodyPost_ret (by simp only [results,Tryz.results240];go_simp;rfl) rfl ?_;exact ⟨⟨_,rfl,Hw.lit _ _ _ _ rfl rfl _ rfl⟩,bW⟩
 ·have e:Fa k = [true,false,false,false,false,false]:=by unfold Fa;rw [if_neg h1,if_neg oM,if_neg h3,if_neg h5,if_neg h9,if_neg h8]
  rw [e];go_enter Tryz.func240,Tryz.ntmps240
  go_wp2;refine bodyPost_ret (by simp only [results,Tryz.results240];go_simp;rfl) rfl ?_;exact ⟨⟨_,rfl,Hw.lit _ _ _ _ rfl rfl _ rfl⟩,bW⟩
theorem Mq (key ch too amt fee:Int) (yes:Bool):Ah 1 key ch too amt fee yes=decide (key=0∧ch=0∧too=0∧(1≤amt∧amt≤1125899906842624)∧fee=0∧yes=false):=by
 exact Fl
theorem NK (key ch too amt fee:Int) (yes:Bool):Ah 2 key ch too amt fee yes=decide (key=0∧(1≤ch∧ch≤99)∧too=0∧(1≤amt∧amt≤1125899906842624)∧(0≤fee∧fee≤1125899906842624)∧yes=false):=by
 exact Fl
theorem Kt (key ch too amt fee:Int) (yes:Bool):Ah 3 key ch too amt fee yes=decide (key=0∧(1≤ch∧ch≤99)∧too=0∧amt=0∧(0≤fee∧fee≤1125899906842624)∧yes=false):=by
 exact Fl
theorem MY (key ch too amt fee:Int) (yes:Bool):Ah 4 key ch too amt fee yes=decide (key=0∧(1≤ch∧ch≤99)∧too=0∧(0≤amt∧amt≤1125899906842624)∧(0≤fee∧fee≤1000000)∧yes=false):=by
 exact Fl
theorem Mt (key ch too amt fee:Int) (yes:Bool):Ah 5 key ch too amt fee yes=decide ((1≤key∧key≤1000000)∧(1≤ch∧ch≤99)∧(1≤too∧too≤99)∧(1≤amt∧amt≤1125899906842624)∧fee=0∧ch≠too):=by
 exact Fl
theorem Py (key ch too amt fee:Int) (yes:Bool):Ah 6 key ch too amt fee yes=decide ((1≤key∧key≤1000000)∧ch=0∧too=0∧amt=0∧fee=0∧yes=false):=by
 exact Fl
theorem QI (key ch too amt fee:Int) (yes:Bool):Ah 7 key ch too amt fee yes=decide ((1≤key∧key≤1000000)∧ch=0∧too=0∧amt=0∧fee=0∧yes=false):=by
 exact Fl
theorem Xg (key ch too amt fee:Int) (yes:Bool):Ah 8 key ch too amt fee yes=decide (key=0∧ch=0∧too=0∧amt=0∧fee=0∧yes=false):=by
 exact Fl
theorem NJ (key ch too amt fee:Int) (yes:Bool):Ah 9 key ch too amt fee yes=decide ((1≤key∧key≤1000000)∧(1≤ch∧ch≤99)∧(1≤too∧too≤99)∧(1≤amt∧amt≤1125899906842624)∧(0≤fee∧fee≤1125899906842624)∧ch≠too∧yes=false):=by
 exact Fl
theorem QD (key ch too amt fee:Int) (yes:Bool):Ah 10 key ch too amt fee yes=decide ((1≤key∧key≤1000000)∧ch=0∧too=0∧amt=0∧fee=0∧yes=false):=by
 exact Fl
theorem Pf (key ch too amt fee:Int) (yes:Bool):Ah 11 key ch too amt fee yes=decide ((1≤key∧key≤1000000)∧ch=0∧too=0∧amt=0∧fee=0∧yes=false):=by
 exact Fl
def be (n:Nat):Nat→List UInt8
 | 0 => []
 | k+1=>UInt8.ofNat (n / 256 ^ k % 256) :: be n k
def num (l:List UInt8):Nat:=l.foldl (fun n b=>n*256+b.toNat) 0
theorem D1 (n:Nat):∀ k,(be n k).length=k
 | 0=>rfl
 | k+1=>by rw [be,List.length_cons,D1 n k]
theorem zw (l r:List UInt8):num (l ++ r)=r.foldl (fun n b=>n*256+b.toNat) (num l):=by unfold num;rw [List.foldl_append]
theorem A0Q (l:List UInt8) (b:UInt8):num (l ++ [b])=num l*256+b.toNat:=by rw [zw];rfl
theorem Pz:∀ (l:List UInt8) (m:Nat),l.foldl (fun n b=>n*256+b.toNat) m=m*256 ^ l.length+num l
 | [],m=>by simp [num]
 | b :: l,m=>by
  have h1:=Pz l (m*256+b.toNat);have h2:=Pz l b.toNat;have e:num (b :: l)=l.foldl (fun n b=>n*256+b.toNat) b.toNat:=by unfold num;rw [List.foldl_cons,Nat.zero_mul,Nat.zero_add]
  rw [List.foldl_cons,h1,e,h2,List.length_cons,Nat.pow_succ,Nat.add_mul,Nat.mul_assoc,Nat.mul_comm 256];omega
theorem wG (b:UInt8) (l:List UInt8):num (b :: l)=b.toNat*256 ^ l.length+num l:=by
 have h:=Pz l b.toNat;rw [← h];unfold num;rw [List.foldl_cons,Nat.zero_mul,Nat.zero_add]
theorem Qd:∀ l:List UInt8,num l<256 ^ l.length
 | []=>by simp [num]
 | b :: l=>by
  have:=Qd l
  have hb:=b.toNat_lt;rw [wG,List.length_cons,Nat.pow_succ];have h1:b.toNat*256 ^ l.length≤255*256 ^ l.length:=Nat.mul_le_mul_right _ oM;omega
structure Wr where
 at_:Int
 bytes:List UInt8
structure Dk where
 cells:List (List UInt8)
 dirty:List Wr
structure Sc where
 seq:Int
 epoch:Int
 body:List UInt8
structure Lo where
 disk:Dk
 next:Int
 epoch:Int
def Dk.zero:Dk:=⟨[],[]⟩
def Lo.zero:Lo:=⟨Dk.zero,0,0⟩
def DD (s:Sc):Bool:=decide (0≤s.seq∧s.seq≤599) && decide (1≤s.epoch∧s.epoch≤16000000) && decide (s.body.length≤100)
def GI (n:Nat):List UInt8:=List.replicate n 0
def Dv (s:Sc):List UInt8 := [74] ++ be s.seq.toNat 3 ++ be s.epoch.toNat 3 ++ [UInt8.ofNat s.body.length] ++ s.body ++ GI (114 - s.body.length) ++ be s.seq.toNat 3 ++ be s.epoch.toNat 3
theorem XY (s:Sc) (h:s.body.length≤100):(Dv s).length=128:=by
 unfold Dv GI;simp only [List.length_append,D1,List.length_cons,List.length_nil,List.length_replicate];omega
def part (l:List UInt8) (i n:Nat):List UInt8:=(l.drop i).take n
def DE (l:List UInt8) (i:Nat):Nat:=((l[i]?).getD 0).toNat
def EZ (l:List UInt8):Sc:=⟨num (part l 1 3),num (part l 4 3),part l 8 (DE l 7)⟩
def Ca (l:List UInt8):Option Sc:=if l.length=128∧DE l 7≤100 then (if DD (EZ l)=true∧Dv (EZ l)=l then some (EZ l) else none) else none
def Ev.good (e:Ev):Bool:=Ah e.kind e.key e.ch e.tw e.amt e.fee e.yes
def Ep (e:Ev):List UInt8 := [69,UInt8.ofNat e.kind.toNat] ++ be e.key.toNat 3 ++ [UInt8.ofNat e.ch.toNat,UInt8.ofNat e.tw.toNat] ++ be e.amt.toNat 7 ++ be e.fee.toNat 7 ++ [if e.yes=true then 1 else 0]
theorem wn (e:Ev):(Ep e).length=22:=by
 unfold Ep;simp only [List.length_append,D1,List.length_cons,List.length_nil]
def Ej (l:List UInt8):Ev:=⟨DE l 1,num (part l 2 3),DE l 5,DE l 6,num (part l 7 7),num (part l 14 7),decide (DE l 21=1)⟩
def DP (l:List UInt8):Option Ev:=if l.length=22 then (if (Ej l).good=true∧Ep (Ej l)=l then some (Ej l) else none) else none
def BO (d:Dk):Bool:=decide (1≤d.cells.length∧d.cells.length≤600) && decide (d.dirty.length≤600) && d.cells.all (fun c=>decide (c.length=0∨c.length=128)) && d.dirty.all (fun w=>decide ((0≤w.at_∧w.at_<(d.cells.length:Int))∧w.bytes.length=128))
def GH (l:List UInt8):List UInt8:=if l = [] then GI 128 else l
def DG (d:Dk) (i:Nat):List UInt8:=match d.dirty.reverse.find? (fun w=>decide (w.at_=(i:Int))) with
 | some w=>w.bytes
 | none=>GH ((d.cells[i]?).getD [])
def DM (d:Dk):Nat→Int→Nat→List Sc
 | _,_,0 => []
 | i,last,f+1=>match Ca (DG d i) with
  | none => []
  | some s=>if s.seq=(i:Int)∧last≤s.epoch then s :: DM d (i+1) s.epoch f else []
def BQ (d:Dk):List Sc:=if BO d=true then DM d 0 0 d.cells.length else []
def Ug (d:Dk) (i:Nat):Int:=match Ca (DG d i) with
 | none=>0
 | some s=>s.epoch
def Ee (l:List Sc):List Ev:=l.filterMap fun s=>DP s.body
def Av (d:Dk):List Ev:=Ee (BQ d)
structure Ln where
 kind:Int
 ch:Int
 amt:Int
def Ln.enc (r:Ln):List Value := [r.kind,r.ch,r.amt]
def Ln.ok (r:Ln):Prop:=AE r.kind∧AE r.ch∧AE r.amt
theorem Ln.enc_len (r:Ln):r.enc.length=3:=rfl
abbrev GE:=FS Ln.enc 3 Ln.ok
theorem DS:(Tryz.prog.info? 178).map (fun i=>(i.zero,i.size,i.bytes))=some (some (.agg #[I0,I0,I0]),3,24):=Cr
abbrev uV:=OF Ln.enc 3 Ln.ok 178
theorem GE.cells {w:World} {B:Nat} {a:Option Addr} {len:Nat} {xs:List Ln} (h:GE w B a len xs) {k:Nat} (hk:k<len) :
 ∃ g off x0 x1 x2,a=some ⟨g,off,none⟩∧g<B∧w.cell? ⟨g,off+k*3,none⟩=some (.int .i64 x0)∧w.cell? ⟨g,off+k*3+1,none⟩=some (.int .i64 x1)∧w.cell? ⟨g,off+k*3+2,none⟩=some (.int .i64 x2) ∧
  AE x0∧AE x1∧AE x2∧Hid (xs[k]? = some ⟨x0,x1,x2⟩)∧Hid (xs.take (k+1)=xs.take k ++ [⟨x0,x1,x2⟩]):=by
 obtain ⟨g,off,r,e,hb,hc,hok,hx,ht⟩:=h.at_ hk
 obtain ⟨x0,x1,x2⟩:=r
 obtain ⟨o0,o1,o2⟩:=hok
 exact ⟨g,off,x0,x1,x2,e,hb,hc 0 _ rfl,hc 1 _ rfl,hc 2 _ rfl,o0,o1,o2,hx,ht⟩
theorem vy (a:Option Addr) (len cap:Nat) (n:Int) (w:World) (hl:len≤9223372036854775807) (h0:0≤n) (h1:n≤1048576):Calls Tryz.prog 147 #[.slice a len cap,n] w fun e w' =>
 e = .returned (.int .i64 (if n - (len:Int)<0 then -1 else n - len))∧w=w':=by
 by_cases h:n - (len:Int)<0
 ·rw [if_pos h];go_enter Tryz.func147,Tryz.ntmps147
  exact IY
 rw [if_neg h]
 go_enter Tryz.func147,Tryz.ntmps147
 go_wp2
 go_ret
 exact ⟨rfl,rfl⟩
def IJ (w:World) (B:Nat) (a:Option Addr) (len cap:Nat) (xs:List Ln) (k:Nat):Prop :=
 ∃ rest:List Value,w.ownsRow B 178 3 (.slice a len cap) len ((xs.take k).flatMap Ln.enc ++ rest)∧rest.length=(len - k)*3
theorem IJ.open_ {w:World} {B:Nat} {a:Option Addr} {len cap:Nat} {xs:List Ln} {k:Nat} (h:IJ w B a len cap xs k) (hx:xs.length=len) (hk:k<len) :
 ∃ g y0 y1 y2 rest,a=some ⟨g,0,none⟩∧B≤g∧rest.length=(len - (k+1))*3∧w.ownsRow B 178 3 (.slice (some ⟨g,0,none⟩) len cap) len ((xs.take k).flatMap Ln.enc ++ [y0,y1,y2] ++ rest) ∧
  w.cell? ⟨g,k*3,none⟩=some y0∧w.cell? ⟨g,k*3+1,none⟩=some y1∧w.cell? ⟨g,k*3+2,none⟩=some y2∧∀ o,w.frozen? ⟨g,o,none⟩=false:=by
 obtain ⟨rest,hown,hr⟩:=h
 obtain ⟨g,rfl,hg⟩:=Kz w hown oM
 obtain ⟨y0,y1,y2,r',rfl⟩:∃ y0 y1 y2 r',rest=y0 :: y1 :: y2 :: r':=by
  have:3≤rest.length:=AA
  match rest,this with
  | y0 :: y1 :: y2 :: r',_=>exact ⟨y0,y1,y2,r',rfl⟩
 have hl:((xs.take k).flatMap Ln.enc).length=k*3:=by rw [DN Ln.enc_len];simp;omega
 have hkk:k*3+3≤len*3:=AA
 have get:∀ j v,[y0,y1,y2][j]? = some v→w.cell? ⟨g,k*3+j,none⟩=some v:=by
  intro j v hv;have hj:j<3:=(List.getElem?_eq_some_iff.1 hv).1;rw [hown.cellAt (k*3+j) oM,List.getElem?_append_right oM,hl,show k*3+j - k*3=j by omega];rw [show (y0 :: y1 :: y2 :: r') = [y0,y1,y2] ++ r' from rfl,List.getElem?_append_left Qw];exact hv
 refine ⟨g,y0,y1,y2,r',rfl,hg,?_,DW,get 0 _ rfl,get 1 _ rfl,get 2 _ rfl,fun o=>hown.frozenAt o⟩
 simp at hr
 omega
theorem IJ.put {w:World} {B g len cap:Nat} {xs:List Ln} {k:Nat} {r:Ln} {y0 y1 y2 v0 v1 v2:Value} {rest:List Value} (hown:w.ownsRow B 178 3 (.slice (some ⟨g,0,none⟩) len cap) len ((xs.take k).flatMap Ln.enc ++ [y0,y1,y2] ++ rest)) (hr:rest.length=(len - (k+1))*3) (hx:xs.length=len) (hk:k<len)
 (ht:xs.take (k+1)=xs.take k ++ [r]) (hv:r.enc = [v0,v1,v2]):IJ (((w.setCell ⟨g,k*3,none⟩ v0).setCell ⟨g,k*3+1,none⟩ v1).setCell ⟨g,k*3+2,none⟩ v2) B (some ⟨g,0,none⟩) len cap xs (k+1):=by
 have hl:((xs.take k).flatMap Ln.enc).length=k*3:=by rw [DN Ln.enc_len];simp;omega
 replace hown:w.ownsRow B 178 3 (.slice (some ⟨g,0,none⟩) len cap) len (((xs.take k).flatMap Ln.enc) ++ y0 :: (y1 :: y2 :: rest)):=DW
 have s0:=(hown.stored (k*3) v0).1
 rw [BR ((xs.take k).flatMap Ln.enc) (y1 :: y2 :: rest) y0 v0 (k*3) BT] at s0
 have s1:=(s0.stored (k*3+1) v1).1
 rw [BR (((xs.take k).flatMap Ln.enc) ++ [v0]) (y2 :: rest) y1 v1 (k*3+1) BT] at s1
 have s2:=(s1.stored (k*3+2) v2).1
 rw [BR ((((xs.take k).flatMap Ln.enc) ++ [v0]) ++ [v1]) (rest) y2 v2 (k*3+2) BT] at s2
 refine ⟨rest,?_,hr⟩
 rw [ht,List.flatMap_append,List.flatMap_cons,List.flatMap_nil,hv,List.append_nil]
 simpa using s2
theorem xz (a:Option Addr) (len cap:Nat) (xs:List Ln) (w:World) (hs:GE w w a len xs) (hlen:len≤1048576):Calls Tryz.prog 168 #[.slice a len cap] w fun e w' =>
 (∃ a c,e = .returned (.slice a len c)∧uV w' w a len c xs)∧Below w w w':=by
 obtain ⟨i0,hi,hz0,hz1,hz2⟩:=info_parts DS
 go_enter Tryz.func168,Tryz.ntmps168
 go_wp2_with (at_make;refine wpList_make_full w rfl _ _ _ rfl w 178 i0 (.agg #[I0,I0,I0]) 3 Tryz.underlying55 hi hz0 hz1 .i64 .i64 _ _ len rfl rfl rfl rfl ?b2 ?b3 (Nat.le_refl _) ?_)
 case b2=>rw [hz2];omega
 case b3=>unfold maxLen;omega
 intro w1 hown hgr
 have hB1:Below w w w1:=(Below.refl _ _).grown hgr (Nat.le_refl _) sM
 have hxl:xs.length=len:=hs.1
 have hown1:IJ w1 w (some ⟨w,0,none⟩) len len xs 0:=⟨_,DW,J8⟩
 clear hown hgr
 have Hxl:=lH hxl;clear hxl
 go_wp2
 go_loopw [4] (fun i wr=>∃ k:Nat,k≤len∧i=k∧IJ wr w (some ⟨w,0,none⟩) len len xs k∧Below w w wr) (fun i _=>len - (intOf i).toNat)
 case atStart=>exact ⟨0,Nat.zero_le _,rfl,hown1,hB1⟩
 case round =>
  exact LQ
theorem wV (a:Option Addr) (len cap:Nat) (a':Option Addr) (cap':Nat) (xs:List Ln) (w:World) (hs:GE w w a len xs) (hs':GE w w a' len xs):Calls Tryz.prog 189 #[.slice a len cap, .slice a' len cap'] w fun e w' =>
 e = .returned true∧Below w w w':=by
 have hl:=hs.lenB
 go_enter Tryz.func189,Tryz.ntmps189
 go_wp2
 go_loopw [5] (fun i wr=>∃ k:Nat,k≤len∧i=k∧Below w w wr) (fun i _=>len - (intOf i).toNat)
 case atStart=>exact ⟨0,Nat.zero_le _,rfl,Below.refl _ _⟩
 case round =>
  have A2i:=trivial;exact IZ
abbrev Bl:=AC Ln.enc 3 178
structure Lg where
 last:Int
 lines:List Ln
structure Po where
 id:Int
 lines:List Ln
def Eh (k c:Int):Bool:=decide ((1≤k∧k≤5∧c=0)∨(6≤k∧k≤8∧1≤c∧c≤99))
def EW (k c k' c':Int):Bool:=decide (k<k'∨(k=k'∧c<c'))
def AV (x y:Ln):Bool:=EW x.kind x.ch y.kind y.ch
def CJ (n:Int):Bool:=decide (-1125899906842624≤n∧n≤1125899906842624)
def Cl (x:Ln):Bool:=Eh x.kind x.ch && !decide (x.amt=0) && CJ x.amt
def GC:List Ln→Bool
 | []=>true
 | [_]=>true
 | x :: y :: r=>AV x y && GC (y :: r)
def Br (l:List Ln):Int:=(l.map (·.amt)).sum
def Cg (l:List Ln):Bool:=l.all Cl && GC l
def DV (l:List Ln):Bool:=Cg l && decide (Br l=0)
def Bq (l:Lg):Bool:=decide (0≤l.last∧l.last≤1125899906842624) && decide (l.lines.length≤320) && DV l.lines
def Dz (p:Po):Bool:=decide (1≤p.id∧p.id≤1125899906842624) && decide (2≤p.lines.length∧p.lines.length≤8) && DV p.lines
theorem IE (x y:Ln):AV x y=true↔(x.kind<y.kind∨(x.kind=y.kind∧x.ch<y.ch)):=by unfold AV EW;rw [decide_eq_true_eq]
theorem NN {x y z:Ln} (h1:AV x y=true) (h2:AV y z=true):AV x z=true:=by rw [IE] at *;omega
theorem Ey (x:Ln) (l:List Ln):Br (x :: l)=x.amt+Br l:=by simp [Br]
theorem Xa (l r:List Ln):Br (l ++ r)=Br l+Br r:=by simp [Br]
theorem Xt:∀ (l:List Ln) (x:Ln),GC (l ++ [x])=(GC l && (match l.getLast? with | none=>true | some y=>AV y x))
 | [],x=>rfl
 | [y],x=>by simp [GC]
 | y :: z :: r,x=>by
  have ih:=Xt (z :: r) x;rw [List.cons_append] at ih;rw [List.cons_append,List.cons_append,GC,GC,ih];cases hr:r.getLast? <;> simp [Bool.and_assoc]
theorem Qa (l:List Ln) (x:Ln):Cg (l ++ [x])=(Cg l && (Cl x && (match l.getLast? with | none=>true | some y=>AV y x))):=by
 unfold Cg;rw [List.all_append,Xt];simp only [List.all_cons,List.all_nil,Bool.and_true];cases l.all Cl<;>cases GC l<;>cases Cl x<;>simp
theorem vm {l:List Ln} {k:Nat} {x:Ln} (h:l[k]? = some x):(l.take (k+1)).getLast? = some x:=by
 have hk:k<l.length:=(List.getElem?_eq_some_iff.1 h).1;rw [List.getLast?_eq_getElem?,List.length_take,Nat.min_eq_left oM,Nat.add_sub_cancel,List.getElem?_take_of_lt oM];exact h
theorem Wp {l:List Ln} {k:Nat} {x:Ln} (h:l.take (k+1)=l.take k ++ [x]):Cg (l.take (k+1))=(Cg (l.take k) && (Cl x && (match (l.take k).getLast? with | none=>true | some y=>AV y x))):=by
 rw [h,Qa]
theorem WY:∀ (r l:List Ln),Cg (l ++ r)=true→Cg l=true
 | [],l,h=>Gi
 | x :: r,l,h=>by
  have h2:=WY r (l ++ [x]) Gi;rw [Qa,Bool.and_eq_true] at h2;exact h2.1
theorem uE {l:List Ln} {k:Nat} (h:Cg (l.take k)=false):DV l=false:=by
 cases hp:Cg l with
 | false=>unfold DV;rw [hp];rfl
 | true =>
  rw [← List.take_append_drop k l] at hp;rw [WY _ _ hp] at h;cases h
theorem MW {l:List Ln} (h:Cg l=true):∀ x∈l,Cl x=true:=fun x hx=>by
 unfold Cg at h;rw [Bool.and_eq_true] at h;exact List.all_eq_true.1 h.1 x hx
theorem IF {x:Ln} (h:Cl x=true) : -1125899906842624≤x.amt∧x.amt≤1125899906842624:=by
 unfold Cl CJ at h;simp only [Bool.and_eq_true,decide_eq_true_eq] at h;exact h.2
theorem Yn:∀ {l:List Ln},(∀ x∈l,-1125899906842624≤x.amt∧x.amt≤1125899906842624) → -(1125899906842624*(l.length:Int))≤Br l∧Br l≤1125899906842624*(l.length:Int)
 | [],_=>by simp [Br]
 | x :: l,h=>by
  have ih:=Yn (l:=l) fun y hy=>h y (List.mem_cons_of_mem _ hy);have hx:=h x List.mem_cons_self;rw [Ey,List.length_cons];omega
def AN:List Ln→List Ln→List Ln
 | [],b=>b
 | x :: a,[]=>x :: a
 | x :: a,y :: b=>if AV x y=true then x :: AN a (y :: b) else if AV y x=true then y :: AN (x :: a) b else
  if x.amt+y.amt=0 then AN a b else ⟨x.kind,x.ch,x.amt+y.amt⟩ :: AN a b
termination_by a b=>a.length+b.length
def Au:List Ln→List Ln→Bool
 | [],_=>true
 | _ :: _,[]=>true
 | x :: a,y :: b=>if AV x y=true then Au a (y :: b) else if AV y x=true then Au (x :: a) b else CJ (x.amt+y.amt) && Au a b
termination_by a b=>a.length+b.length
theorem Ir (b:List Ln):AN [] b=b:=by rw [AN]
theorem Db (a:List Ln):AN a []=a:=by cases a<;>rw [AN]
theorem Mm (b:List Ln):Au [] b=true:=by rw [Au]
theorem Pn (a:List Ln):Au a []=true:=by cases a<;>rw [Au]
def At (l:List Ln) (x:Ln):List Ln:=AN l [x]
def Jk (x:Ln) (l:List Ln):Prop:=∀ y∈l,AV x y=true
def Gd (l:List Ln):Prop:=l.Pairwise fun x y=>AV x y=true
theorem Ql:∀ (l:List Ln),GC l=true↔Gd l
 | []=>⟨fun _=>List.Pairwise.nil,fun _=>rfl⟩
 | [x]=>⟨fun _=>List.pairwise_singleton _ _,fun _=>rfl⟩
 | x :: y :: r=>by
  have ih:=Ql (y :: r);unfold GC;rw [Bool.and_eq_true,ih];unfold Gd;rw [List.pairwise_cons (a:=x)];constructor
  ·have A2j:=trivial;exact Y4
  rintro ⟨h1,h2⟩;exact ⟨h1 y List.mem_cons_self,h2⟩
theorem uk {x y:Ln} (h:AV x y=true):AV y x=false:=by
 cases h2:AV y x with
 | false=>rfl
 | true=>rw [IE] at h h2;omega
theorem JG:∀ (a b:List Ln) (z:Ln),Jk z a→Jk z b→Jk z (AN a b)
 | [],b,z,_,hb=>by rw [AN];exact hb
 | x :: a,[],z,ha,_=>by rw [AN];exact ha
 | x :: a,y :: b,z,ha,hb=>by
  have hx:=ha x List.mem_cons_self;have hy:=hb y List.mem_cons_self;have ha':Jk z a:=fun u hu=>ha u (List.mem_cons_of_mem _ hu);have hb':Jk z b:=fun u hu=>hb u (List.mem_cons_of_mem _ hu);rw [AN];split
  ·have A2k:=trivial;exact J9
  split
  ·have A2l:=trivial;exact J9
  split
  ·exact JG a b z ha' hb'
  have A2m:=trivial;exact J9
termination_by a b=>a.length+b.length
theorem Kc {x y:Ln} (h1:¬ AV x y=true) (h2:¬ AV y x=true):x.kind=y.kind∧x.ch=y.ch:=by rw [IE] at h1 h2;omega
theorem Jt:∀ (a b:List Ln),Gd a→Gd b→Gd (AN a b)
 | [],b,_,hb=>by rw [AN];exact hb
 | x :: a,[],ha,_=>by rw [AN];exact ha
 | x :: a,y :: b,ha,hb=>by
  obtain ⟨hxa,ha'⟩:=List.pairwise_cons.1 ha;obtain ⟨hyb,hb'⟩:=List.pairwise_cons.1 hb;rw [AN];split
  ·rename_i h1;refine List.pairwise_cons.2 ⟨JG a (y :: b) x hxa fun u hu => ?_,Jt a (y :: b) ha' hb⟩;rcases List.mem_cons.1 hu with rfl | hu
   ·exact h1
   exact NN h1 (hyb u hu)
  rename_i h1;split
  ·rename_i h2;refine List.pairwise_cons.2 ⟨JG (x :: a) b y (fun u hu => ?_) hyb,Jt (x :: a) b ha hb'⟩;rcases List.mem_cons.1 hu with rfl | hu
   ·exact h2
   exact NN h2 (hxa u hu)
  rename_i h2;split
  ·exact Jt a b ha' hb'
  have hs:=Kc h1 h2;refine List.pairwise_cons.2 ⟨JG a b _ (fun u hu => ?_) (fun u hu => ?_),Jt a b ha' hb'⟩
  ·have:=hxa u hu;rw [IE] at this ⊢;exact this
  have:=hyb u hu;rw [IE] at this ⊢;simp only;omega
termination_by a b=>a.length+b.length
theorem Kj:∀ (a b:List Ln),Br (AN a b)=Br a+Br b
 | [],b=>by rw [AN];simp [Br]
 | x :: a,[]=>by rw [AN];simp [Br]
 | x :: a,y :: b=>by
  rw [AN];split
  ·rw [Ey,Kj a (y :: b),Ey,Ey];omega
  split
  ·rw [Ey,Kj (x :: a) b,Ey,Ey];omega
  split
  ·rw [Kj a b,Ey,Ey];omega
  rw [Ey,Kj a b,Ey,Ey];simp only;omega
termination_by a b=>a.length+b.length
def JC (x:Ln):Bool:=Eh x.kind x.ch && !decide (x.amt=0)
theorem Jd (x:Ln):Cl x=(JC x && CJ x.amt):=rfl
theorem LL:∀ (a b:List Ln),(∀ x∈a,JC x=true)→(∀ x∈b,JC x=true)→∀ x∈AN a b,JC x=true
 | [],b,_,hb=>by rw [AN];exact hb
 | x :: a,[],ha,_=>by rw [AN];exact ha
 | x :: a,y :: b,ha,hb=>by
  have ha':∀ u∈a,JC u=true:=fun u hu=>ha u (List.mem_cons_of_mem _ hu);have hb':∀ u∈b,JC u=true:=fun u hu=>hb u (List.mem_cons_of_mem _ hu);have hx:=ha x List.mem_cons_self;have hy:=hb y List.mem_cons_self;rw [AN];split
  ·have A2n:=trivial;exact J9
  split
  ·have A2o:=trivial;exact J9
  split
  ·exact LL a b ha' hb'
  rename_i hne;exact J9
termination_by a b=>a.length+b.length
theorem xb:CJ 0=true:=FG
theorem Ks:∀ (a b:List Ln),(∀ x∈a,CJ x.amt=true)→(∀ x∈b,CJ x.amt=true)→(AN a b).all (fun x=>CJ x.amt)=Au a b
 | [],b,_,hb=>by rw [AN,Au];exact List.all_eq_true.2 hb
 | x :: a,[],ha,_=>by rw [AN,Au];exact List.all_eq_true.2 ha
 | x :: a,y :: b,ha,hb=>by
  have ha':∀ u∈a,CJ u.amt=true:=fun u hu=>ha u (List.mem_cons_of_mem _ hu);have hb':∀ u∈b,CJ u.amt=true:=fun u hu=>hb u (List.mem_cons_of_mem _ hu);have hx:=ha x List.mem_cons_self;have hy:=hb y List.mem_cons_self;rw [AN,Au];split
  ·rw [List.all_cons,Ks a (y :: b) ha' hb,hx,Bool.true_and]
  split
  ·rw [List.all_cons,Ks (x :: a) b ha hb',hy,Bool.true_and]
  split
  ·rename_i h0;rw [Ks a b ha' hb',h0,xb,Bool.true_and]
  rw [List.all_cons,Ks a b ha' hb']
termination_by a b=>a.length+b.length
theorem Vs:∀ (a b:List Ln) (y:Ln),Gd a→Jk y b→AN a (y :: b)=AN (At a y) b
 | [],b,y,_,hb=>by
  unfold At;rw [AN,AN]
  cases b with
  | nil=>rw [AN]
  | cons z b =>
   rw [AN,if_pos (hb z List.mem_cons_self),AN]
 | x :: a,b,y,ha,hb=>by
  obtain ⟨hxa,ha'⟩:=List.pairwise_cons.1 ha;unfold At;by_cases h1:AV x y=true
  ·rw [AN,if_pos h1,Vs a b y ha' hb];unfold At;rw [AN,if_pos h1]
   cases b with
   | nil=>rw [Db,Db]
   | cons z b =>
    have hz:AV x z=true:=NN h1 (hb z List.mem_cons_self);rw [AN.eq_3,if_pos hz]
  by_cases h2:AV y x=true
  ·rw [AN,if_neg h1,if_pos h2,AN,if_neg h1,if_pos h2,Db]
   cases b with
   | nil=>rw [Db,Db]
   | cons z b =>
    rw [AN.eq_3 y,if_pos (hb z List.mem_cons_self)]
  have hs:=Kc h1 h2;rw [AN,if_neg h1,if_neg h2,AN,if_neg h1,if_neg h2,Db];split
  ·rfl
  cases b with
  | nil=>rw [Db,Db]
  | cons z b =>
   have hz:=hb z List.mem_cons_self;(have hz2:AV ⟨x.kind,x.ch,x.amt+y.amt⟩ z=true:=by rw [IE] at hz ⊢;simp only;omega);rw [AN.eq_3 _ a,if_pos hz2]
theorem YN:∀ (b a:List Ln),Gd a→Gd b→b.foldl At a=AN a b
 | [],a,_,_=>by rw [Db];rfl
 | y :: b,a,ha,hb=>by
  obtain ⟨hyb,hb'⟩:=List.pairwise_cons.1 hb;rw [List.foldl_cons,YN b (At a y) (Jt a [y] ha (List.pairwise_singleton _ _)) hb',Vs a b y ha hyb]
def Lg.zero:Lg:=⟨0,[]⟩
def BV (l:Lg) (p:Po):Int × Lg :=
 if (Bq l && Dz p)=false then (1,Lg.zero) else if p.id≤l.last then (2,Lg.zero)
 else if (Au l.lines p.lines && decide ((AN l.lines p.lines).length≤320))=false then (3,Lg.zero) else (0,⟨p.id,AN l.lines p.lines⟩)
theorem K5 {l:Lg} (h:Bq l=true):(0≤l.last∧l.last≤1125899906842624)∧l.lines.length≤320∧DV l.lines=true:=by
 unfold Bq at h;exact Qx
theorem Mu {p:Po} (h:Dz p=true):(1≤p.id∧p.id≤1125899906842624)∧(2≤p.lines.length∧p.lines.length≤8)∧DV p.lines=true:=by
 unfold Dz at h;exact Qx
theorem Ec {l:List Ln} (h:DV l=true):(∀ x∈l,Cl x=true)∧Gd l∧Br l=0:=by
 unfold DV Cg at h;simp only [Bool.and_eq_true,decide_eq_true_eq] at h;exact ⟨List.all_eq_true.1 h.1.1,(Ql l).1 h.1.2,h.2⟩
theorem vC {l:Lg} {p:Po} (hl:Bq l=true) (hp:Dz p=true):Bq ⟨p.id,AN l.lines p.lines⟩=(Au l.lines p.lines && decide ((AN l.lines p.lines).length≤320)):=by
 obtain ⟨h1,h2,h3⟩:=K5 hl;obtain ⟨g1,g2,g3⟩:=Mu hp;obtain ⟨a1,a2,a3⟩:=Ec h3;obtain ⟨b1,b2,b3⟩:=Ec g3;have M1:∀ x∈l.lines,CJ x.amt=true:=fun x hx=>by have:=a1 x hx;rw [Jd,Bool.and_eq_true] at this;exact this.2
 have M2:∀ x∈p.lines,CJ x.amt=true:=fun x hx=>by have:=b1 x hx;rw [Jd,Bool.and_eq_true] at this;exact this.2
 have O:=LL l.lines p.lines (fun x hx=>by have:=a1 x hx;rw [Jd,Bool.and_eq_true] at this;exact this.1) (fun x hx=>by have:=b1 x hx;rw [Jd,Bool.and_eq_true] at this;exact this.1);have hs:=Kj l.lines p.lines;have hc:=(Ql _).2 (Jt l.lines p.lines a2 b2);unfold Bq DV Cg;simp only;rw [decide_eq_true (show 0≤p.id∧p.id≤1125899906842624 by omega),hc,decide_eq_true (show Br (AN l.lines p.lines)=0 by omega),← Ks _ _ M1 M2]
 have e:(AN l.lines p.lines).all Cl=(AN l.lines p.lines).all fun x=>CJ x.amt:=by
  rw [Bool.eq_iff_iff,List.all_eq_true,List.all_eq_true];refine ⟨fun h x hx => ?_,fun h x hx => ?_⟩
  ·have:=h x hx;rw [Jd,Bool.and_eq_true] at this;exact this.2
  rw [Jd,O x hx,h x hx];rfl
 rw [e];cases (AN l.lines p.lines).all (fun x=>CJ x.amt)<;>simp
def IR (ls:List Ln) (k c:Int):Int:=((ls.find? fun x=>decide (x.kind=k∧x.ch=c)).map (·.amt)).getD 0
def Bj (l:Lg) (k c:Int):Int:=if Bq l && Eh k c then IR l.lines k c else 0
def Mz (l:Lg) (ps:List Po):Lg × Int:=if Bq l=false then (Lg.zero,-1) else ps.foldl (fun s p=>if (BV s.1 p).1=0 then ((BV s.1 p).2,s.2+1) else s) (l,0)
end Go.Proofs.YtahefgkdbecemaaGreat
namespace Go.Proofs.YtahefgkdbecemaaGreat.Knuth
open Go.RowKit
set_option linter.unusedVariables false
set_option linter.unusedSimpArgs false
set_option maxRecDepth 100000
set_option maxHeartbeats 12800000
theorem key {n2 n1 d1 d0 q r B:Nat} (h:q*d1+r=n2):q*(d1*B+d0)≤n2*B+n1↔q*d0≤B*r+n1:=by
 subst h;have e1:q*(d1*B+d0)=q*d1*B+q*d0:=by rw [Nat.mul_add,Nat.mul_assoc]
 have e2:(q*d1+r)*B=q*d1*B+B*r:=by rw [Nat.add_mul,Nat.mul_comm r B]
 rw [e1,e2];omega
theorem A1p {n2 n1 y B:Nat} (hy:n2<y) (h1:n1<B):(n2*B+n1) / y<B:=by
 have hB:0<B:=AA;rw [Nat.div_lt_iff_lt_mul oM];have:n2*B+B≤y*B:=by rw [← Nat.succ_mul];exact Nat.mul_le_mul_right _ hy
 rw [Nat.mul_comm B y];omega
theorem down {n2 n1 d1 d0 q r B:Nat} (hB:n1<B) (hy:n2<d1*B+d0) (h:q*d1+r=n2) (ht:B≤q∨B*r+n1<q*d0) :
 0<q∧(q - 1)*d1+(r+d1)=n2∧(n2*B+n1) / (d1*B+d0)≤q - 1:=by
 have hlt:(n2*B+n1) / (d1*B+d0)<q:=by
  rcases ht with ht | ht
  ·exact Nat.lt_of_lt_of_le (A1p hy hB) ht
  rw [Nat.div_lt_iff_lt_mul oM];have:=key (B:=B) (n1:=n1) (d0:=d0) h
  omega
 have hq0:0<q:=Nat.lt_of_le_of_lt (Nat.zero_le _) hlt
 refine ⟨hq0,?_,AA⟩
 have:(q - 1)*d1+d1=q*d1:=by rw [← Nat.succ_mul,Nat.succ_eq_add_one,Nat.sub_add_cancel hq0]
 omega
theorem done {n2 n1 d1 d0 q r B:Nat} (hy:n2<d1*B+d0) (h:q*d1+r=n2) (hq:(n2*B+n1) / (d1*B+d0)≤q) (ht:q*d0≤B*r+n1) :
 q=(n2*B+n1) / (d1*B+d0):=by
 apply Nat.le_antisymm _ hq
 rw [Nat.le_div_iff_mul_le oM]
 exact (key h).2 ht
theorem start {n2 n1 d1 d0 B:Nat} (hd:B≤2*d1) (h0:d0<B) (h1:d1<B) (hn:n1<B) (hy:n2<d1*B+d0) :
 n2 / d1*d1+n2 % d1=n2∧(n2*B+n1) / (d1*B+d0)≤n2 / d1∧n2 / d1≤B+1∧n2 % d1<B:=by
 have hp:0<d1:=AA
 refine ⟨by rw [Nat.mul_comm];exact Nat.div_add_mod _ _,?_,?_,Nat.lt_trans (Nat.mod_lt _ hp) h1⟩
 ·rw [Nat.le_div_iff_mul_le hp];have h2:(n2*B+n1) / (d1*B+d0)*(d1*B+d0)≤n2*B+n1:=Nat.div_mul_le_self _ _;generalize (n2*B+n1) / (d1*B+d0)=q at *;rw [Nat.mul_add,← Nat.mul_assoc] at h2;have h3:q*d1*B<(n2+1)*B:=by rw [Nat.add_mul];omega
  have:=Nat.lt_of_mul_lt_mul_right h3
  omega
 have h2:n2 / d1*d1≤n2:=Nat.div_mul_le_self _ _
 generalize n2 / d1=q at *
 have h3:q*d1<(B+2)*d1:=by rw [Nat.add_mul,Nat.mul_comm B d1];omega
 have:=Nat.lt_of_mul_lt_mul_right h3
 omega
theorem brk {q r d0 n1 B:Nat} (hq:q≤B) (h0:d0<B) (hr:B≤r):q*d0≤B*r+n1:=by
 have h1:q*d0≤B*d0:=Nat.mul_le_mul_right _ hq;have h2:B*d0≤B*r:=Nat.mul_le_mul_left _ oM;omega
theorem two {n2 n1 n0 y B:Nat} (hy:0<y):(n2*B+n1) / y*B+((n2*B+n1) % y*B+n0) / y=((n2*B+n1)*B+n0) / y∧((n2*B+n1) % y*B+n0) % y=((n2*B+n1)*B+n0) % y:=by
 generalize n2*B+n1=u
 have e:u*B+n0=y*(u / y*B)+(u % y*B+n0):=by
  have:=Nat.div_add_mod u y
  calc u*B+n0=(y*(u / y)+u % y)*B+n0:=by rw [this]
   _=_:=by rw [Nat.add_mul,Nat.mul_assoc];omega
 rw [e];constructor
 ·rw [Nat.mul_add_div hy]
 rw [Nat.mul_add_mod]
end Go.Proofs.YtahefgkdbecemaaGreat.Knuth
namespace Go.Proofs.YtahefgkdbecemaaGreat
open Go.RowKit
set_option linter.unusedVariables false
set_option linter.unusedSimpArgs false
set_option maxRecDepth 100000
set_option maxHeartbeats 12800000
def dk (a b c:Int):Bool:=decide (a*b / c≤1125899906842624)
def dq (a b c:Int):Int:=if dk a b c=true then a*b / c else 0
def dr (a b c:Int):Int:=if dk a b c=true then a*b % c else 0
theorem vz {a b c:Int} (ha:0≤a) (hb:0≤b) (hc:1≤c):0≤dq a b c∧dq a b c≤1125899906842624:=by
 unfold dq;split
 ·rename_i h;have:=of_decide_eq_true h
  exact ⟨Int.ediv_nonneg (Int.mul_nonneg ha hb) oM,this⟩
 omega
def dx (a b k:Nat):Nat:=a / 2 ^ k*b
theorem uf {a b:Nat} (ha:a≤1125899906842624):dx a b 51=0:=by
 unfold dx;rw [Nat.div_eq_of_lt oM,Nat.zero_mul]
theorem Ym (a b:Nat):dx a b 0=a*b:=by simp [dx]
theorem QH (a b k:Nat):dx a b k=2*dx a b (k+1)+a / 2 ^ k % 2*b:=by
 unfold dx;have e:a / 2 ^ (k+1)=a / 2 ^ k / 2:=by rw [Nat.pow_succ,Nat.div_div_eq_div_mul]
 rw [e];generalize a / 2 ^ k=m;have:m=2*(m / 2)+m % 2:=AA
 calc m*b=(2*(m / 2)+m % 2)*b:=by rw [← this]
  _=_:=by rw [Nat.add_mul,Nat.mul_assoc]
theorem Wb (a b:Nat):∀ k,dx a b k≤a*b
 | 0=>by rw [Ym];exact Nat.le_refl _
 | k+1=>by have:=QH a b k;have:=Wb a b k;omega
theorem Ux {X q r c:Nat} (h:q*c+r=X) (hr:r<c):X / c=q∧X % c=r:=by
 subst h;rw [Nat.mul_comm,Nat.mul_add_div oM,Nat.mul_add_mod,Nat.div_eq_of_lt hr,Nat.mod_eq_of_lt hr];exact ⟨AA,rfl⟩
theorem xH {a b c k q r:Nat} (hk:dx a b (k+1)=(q*c+r)) (h0:a / 2 ^ k % 2=0):2*q*c+2*r=dx a b k:=by
 rw [QH,hk,h0,Nat.mul_add,Nat.mul_assoc];omega
theorem div_one {a b c k q r:Nat} (hk:dx a b (k+1)=(q*c+r)) (h0:a / 2 ^ k % 2=1):(2*q+b / c)*c+(2*r+b % c)=dx a b k:=by
 have hb:b / c*c+b % c=b:=by rw [Nat.mul_comm];exact Nat.div_add_mod b c
 rw [QH,hk,h0,Nat.mul_add,Nat.add_mul,Nat.mul_assoc];omega
theorem A1M {a b c q r k:Nat} (h:q*c+r=dx a b k) (hr:r<c) (hq:1125899906842624<q):dk a b c=false:=by
 have h1:=(Ux h hr).1;have h2:=Nat.div_le_div_right (c:=c) (Wb a b k);rw [h1] at h2;unfold dk;rw [decide_eq_false_iff_not];intro h3;have:((a*b / c:Nat):Int)≤1125899906842624:=by push_cast;exact h3
 omega
theorem A0u {a b c q r:Nat} (h:q*c+r=dx a b 0) (hr:r<c) (hq:q≤1125899906842624):dq a b c=q∧dr a b c=r∧dk a b c=true:=by
 rw [Ym] at h;have h1:=Ux h hr
 have hk:dk a b c=true:=by
  unfold dk;rw [decide_eq_true_iff];have:((a*b / c:Nat):Int)≤1125899906842624:=AA
  push_cast at this;exact this
 refine ⟨?_,?_,hk⟩
 ·unfold dq;rw [if_pos hk,← h1.1];push_cast;rfl
 unfold dr;rw [if_pos hk,← h1.2];push_cast;rfl
theorem uw {q r c X:Nat} (h:q*c+r=X) (hr:c≤r):(q+1)*c+(r - c)=X:=by
 rw [Nat.add_mul];omega
theorem Xx:(2:Int) ^ 63=9223372036854775808:=FG
theorem A2K (m:Nat) (hm:m<9223372036854775808):bits BinOp.and IntKind.i64 (m:Int) 1=((m % 2:Nat):Int):=by
 have h:=bits_mask .i64 63 dC (fun n h0 h1=>by rw [Xx] at h1;rw [IntKind.wrap_i64];omega) 1 dC (m:Int) oM (by rw [Xx];omega);have e:((2:Int) ^ 1 - 1)=1:=FG;rw [e] at h;rw [h];omega
theorem Xq (a k:Nat) (ha:(a:Int)≤1125899906842624):bits BinOp.and IntKind.i64 ((a:Int) / 2 ^ k) 1=((a / 2 ^ k % 2:Nat):Int):=by
 have h:=A2K (a / 2 ^ k) (by have:=Nat.div_le_self a (2 ^ k);omega);rw [← h]
 congr 1
theorem M4 (a b c:Int) (w:World) (ha:0≤a∧a≤1125899906842624) (hb:0≤b∧b≤1125899906842624) (hc:1≤c∧c≤1125899906842624) :
 Calls Tryz.prog 315 #[a,b,c] w fun e w'=>e = .returned (.tuple #[dq a b c,dr a b c,dk a b c])∧w=w':=by
 obtain ⟨a,rfl⟩:=Int.eq_ofNat_of_zero_le ha.1
 obtain ⟨b,rfl⟩:=Int.eq_ofNat_of_zero_le hb.1
 obtain ⟨c,rfl⟩:=Int.eq_ofNat_of_zero_le (show 0≤c by omega)
 obtain ⟨-,ha⟩:=ha
 obtain ⟨-,hb⟩:=hb
 obtain ⟨hc0,hc⟩:=hc
 have Hx:=lH (uf (a:=a) (b:=b) oM)
 have hbc0:0≤(b:Int) / c:=Int.ediv_nonneg oM oM
 have hbc1:(b:Int) / c≤1125899906842624:=Int.le_trans (Int.ediv_le_self _ oM) hb
 have hbr0:0≤(b:Int) % c:=Int.emod_nonneg _ oM
 have hbr1:(b:Int) % c<c:=Int.emod_lt_of_pos _ oM
 go_enter Tryz.func315,Tryz.ntmps315
 go_wp2
 go_loop [9,10,11] (fun q r i=>∃ (z:Int) (q' r':Nat),-1≤z∧z≤50∧i=z∧q=q'∧r=r'∧q'≤1125899906842624∧r'<c∧Hid (dx a b (z+1).toNat=q'*c+r')) (fun _ _ i=>(intOf i+1).toNat)
 case atStart=>exact ⟨50,0,0,AA,AA,rfl,rfl,rfl,AA,AA,by unfold Hid;rw [show ((50:Int)+1).toNat=51 from rfl,Hx.out];simp⟩
 case round =>
  obtain ⟨z,q,r,hz0,hz1,rfl,rfl,rfl,hq,hr,hX⟩:=hrel;by_cases hz:0≤z;rotate_left
  ·obtain rfl:z = -1:=AA;have Hd:=lH (A0u hX.out.symm hr hq);clear hX;go_wp2;go_ret3;exact ⟨by rw [Hd.out.1,Hd.out.2.1,Hd.out.2.2];rfl,rfl⟩
  obtain ⟨k,rfl⟩:=Int.eq_ofNat_of_zero_le hz;rw [show ((k:Int)+1).toNat=k+1 by omega] at hX;by_cases hbit:a / 2 ^ k % 2=1
  ·have Hb:=lH (div_one hX.out hbit);(have ht:(bits BinOp.and IntKind.i64 (a / 2 ^ k) 1 == 1)=true:=by rw [Xq a k ha,hbit];rfl);have A2p:=trivial;exact Y5
  have Hb:=lH (xH hX.out oM);have ht:(bits BinOp.and IntKind.i64 (a / 2 ^ k) 1 == 1)=false:=by rw [Xq a k ha,show a / 2 ^ k % 2=0 by omega];rfl
  exact Y5
theorem VF {n:Int} (h0:0≤n) (h1:n≤18446744073709551615):IntKind.u64.wrap n=n:=IntWalk.u64_in n ⟨h0,h1⟩
theorem zD {x:Nat} (h0:0<x) (h:x<18446744073709551616):1≤Lib.bitLen x∧Lib.bitLen x≤64∧2 ^ (Lib.bitLen x - 1)≤x∧x<2 ^ Lib.bitLen x:=by
 have hb:=Lib.bitLenAux_bounds 64 x oM oM;refine ⟨hb.1,?_,hb.2⟩;rcases Nat.lt_or_ge 64 (Lib.bitLenAux 64 x) with h1 | h1
 ·have:2 ^ 64≤2 ^ (Lib.bitLenAux 64 x - 1):=Nat.pow_le_pow_right oM oM
  have:=hb.2.1
  omega
 exact h1
theorem vT (y s:Nat) (hs:Hid (Lib.bitLen y+s=64)) (hy:y<18446744073709551616) (w:World):Calls Tryz.prog 319 #[.int .u64 y] w fun e w'=>e = .returned (.int .i64 (s:Int))∧w=w' :=
 (Tryz.bits_LeadingZeros64 y w oM oM).mono fun e w' ⟨he,hw⟩=>⟨by rw [he,show ((y:Nat):Int).toNat=y from rfl];exact CD (by have:=hs.out;omega),hw.symm⟩
theorem A04 {y:Nat} (h0:0<y) (hy:y<18446744073709551616):∃ s:Nat,s≤63∧Hid (Lib.bitLen y+s=64)∧9223372036854775808≤y*2 ^ s∧y*2 ^ s<18446744073709551616:=by
 have hb:=zD h0 hy;refine ⟨64 - Lib.bitLen y,AA,Ia,?_,?_⟩
 ·have:2 ^ (Lib.bitLen y - 1)*2 ^ (64 - Lib.bitLen y)≤y*2 ^ (64 - Lib.bitLen y):=Nat.mul_le_mul_right _ hb.2.2.1
  rw [← Nat.pow_add,show Lib.bitLen y - 1+(64 - Lib.bitLen y)=63 by omega] at this;exact this
 have:y*2 ^ (64 - Lib.bitLen y)<2 ^ Lib.bitLen y*2 ^ (64 - Lib.bitLen y):=Nat.mul_lt_mul_of_pos_right hb.2.2.2 (Nat.two_pow_pos _)
 rw [← Nat.pow_add,show Lib.bitLen y+(64 - Lib.bitLen y)=64 by omega] at this;exact this
theorem Yf (n:Nat) (h:n<18446744073709551616):bits BinOp.and IntKind.u64 (n:Int) 4294967295=((n % 4294967296:Nat):Int):=by
 rw [and_low32 (n:Int) oM oM];omega
theorem Ix {n:Nat} (h:n<18446744073709551616):IntKind.u64.wrap (n:Int)=(n:Int):=VF oM oM
theorem A1j {h l:Nat} (hh:h<18446744073709551616) (hl:l<18446744073709551616):bits BinOp.or IntKind.u64 (IntKind.u64.wrap (h:Int)) (l:Int)=((h ||| l:Nat):Int):=by
 rw [Ix hh,u64_or _ _ oM oM oM oM];rfl
theorem A1Z (a b c:Int):IntKind.u64.wrap (IntKind.u64.wrap (IntKind.u64.wrap a+b) - IntKind.u64.wrap c)=IntKind.u64.wrap (a+b - c):=by
 simp only [IntKind.wrap_u64];omega
theorem uC (a b:Int):IntKind.u64.wrap (IntKind.u64.wrap a+b)=IntKind.u64.wrap (a+b):=by
 simp only [IntKind.wrap_u64];omega
theorem Yi {n2 n1 Q Y U:Nat} (hQ:Q=(n2*4294967296+n1) / Y) (hU:U=(n2*4294967296+n1) % Y) (h:U<18446744073709551616) :
 IntKind.u64.wrap (IntKind.u64.wrap (IntKind.u64.wrap ((n2:Int)*4294967296)+n1) - IntKind.u64.wrap ((Q:Int)*Y))=(U:Int):=by
 have h1:=Nat.div_add_mod (n2*4294967296+n1) Y
 rw [← hQ,← hU] at h1
 rw [A1Z,← Ix h]
 congr 1
 have h2:((Y*Q+U:Nat):Int)=((n2*4294967296+n1:Nat):Int):=by rw [h1]
 rw [Int.natCast_add,Int.natCast_mul] at h2
 rw [Int.mul_comm (Q:Int)]
 omega
theorem A1Y {hi lo s:Nat} (hs:s≤63) (h:hi*2 ^ s+lo / 2 ^ (64 - s)<18446744073709551616) (hl:lo<18446744073709551616) :
 bits BinOp.or IntKind.u64 (IntKind.u64.wrap ((hi:Int)*2 ^ s)) ((lo:Int) / 2 ^ (64 - s))=((hi*2 ^ s+lo / 2 ^ (64 - s):Nat):Int):=by
 have h1:lo / 2 ^ (64 - s)<2 ^ s:=by
  rw [Nat.div_lt_iff_lt_mul (Nat.two_pow_pos _),← Nat.pow_add,show s+(64 - s)=64 by omega];exact hl
 have e1:((hi:Int)*2 ^ s)=((hi*2 ^ s:Nat):Int):=by push_cast;rfl
 have e2:((lo:Int) / 2 ^ (64 - s))=((lo / 2 ^ (64 - s):Nat):Int):=by push_cast;rfl
 rw [e1,e2,A1j (Nat.lt_of_le_of_lt (Nat.le_add_right _ _) h) (Nat.lt_of_le_of_lt (Nat.le_add_left _ _) h),Nat.mul_comm,← Nat.two_pow_add_eq_or_of_lt h1]
theorem Xb {hi lo s:Nat} (hs:s≤63) (hl:lo<18446744073709551616):(hi*18446744073709551616+lo)*2 ^ s=(hi*2 ^ s+lo / 2 ^ (64 - s))*18446744073709551616+lo*2 ^ s % 18446744073709551616:=by
 have e:(18446744073709551616:Nat)=2 ^ (64 - s)*2 ^ s:=by rw [← Nat.pow_add,show 64 - s+s=64 by omega]
 have h1:lo*2 ^ s / 18446744073709551616=lo / 2 ^ (64 - s):=by rw [e,Nat.mul_div_mul_right _ _ (Nat.two_pow_pos _)]
 have h2:=Nat.div_add_mod (lo*2 ^ s) 18446744073709551616;rw [h1] at h2;rw [Nat.add_mul,Nat.add_mul,Nat.mul_right_comm];omega
theorem Kg (hi lo y:Nat) (w:World) (h:hi<y) (hy:y<18446744073709551616) (hl:lo<18446744073709551616) :
 Calls Tryz.prog 318 #[.int .u64 hi, .int .u64 lo, .int .u64 y] w fun e w'=>e = .returned (.tuple #[.int .u64 (((hi*18446744073709551616+lo) / y:Nat):Int), .int .u64 (((hi*18446744073709551616+lo) % y:Nat):Int)])∧Below w w w':=by
 by_cases h0:hi=0
 ·subst h0;go_enter Tryz.func318,Tryz.ntmps318
  go_wp2;go_quiet (fail)
  go_wp2;go_ret2;exact ⟨by rw [VF (Int.ediv_nonneg oM oM) (Int.le_trans (Int.ediv_le_self _ oM) oM)];simp,C8 (Below.refl _ _)⟩
 obtain ⟨s,hs,Hs,hn1,hn2⟩:=A04 (show 0<y by omega) hy
 obtain ⟨F,hF⟩:∃ n:Nat,n=(hi*18446744073709551616+lo) / y:=⟨_,rfl⟩
 obtain ⟨G,hG⟩:∃ n:Nat,n=(hi*18446744073709551616+lo) % y:=⟨_,rfl⟩
 have hF2:F<18446744073709551616:=by
  rw [hF,Nat.div_lt_iff_lt_mul oM];omega
 rw [← hF,← hG]
 have HF:=lH hF
 have HG:=lH hG
 clear hF hG
 obtain ⟨Y,hY⟩:∃ Y:Nat,Y=y*2 ^ s:=⟨_,rfl⟩
 rw [← hY] at hn1 hn2
 have E1:IntKind.u64.wrap ((y:Int)*2 ^ s)=(Y:Int):=by rw [← Ix hn2,hY];push_cast;rfl
 obtain ⟨n2,hn⟩:∃ n:Nat,n=hi*2 ^ s+lo / 2 ^ (64 - s):=⟨_,rfl⟩
 have hlt:n2<Y:=by
  have h1:=Xb (hi:=hi) hs hl;rw [← hn] at h1;have h2:(hi*18446744073709551616+lo)*2 ^ s<y*18446744073709551616*2 ^ s:=Nat.mul_lt_mul_of_pos_right oM (Nat.two_pow_pos _);rw [Nat.mul_right_comm,← hY] at h2;omega
 have E2:bits BinOp.or IntKind.u64 (IntKind.u64.wrap ((hi:Int)*2 ^ s)) ((lo:Int) / 2 ^ (64 - s))=(n2:Int):=by rw [A1Y hs oM hl,hn]
 obtain ⟨L,hL⟩:∃ L:Nat,L=lo*2 ^ s % 18446744073709551616:=⟨_,rfl⟩
 have hL2:L<18446744073709551616:=by rw [hL];exact Nat.mod_lt _ oM
 have E3:IntKind.u64.wrap ((lo:Int)*2 ^ s)=(L:Int):=by rw [IntKind.wrap_u64,hL,Int.natCast_emod,Int.natCast_mul,Int.natCast_pow];rfl
 have Hu:Hid ((hi*18446744073709551616+lo)*2 ^ s=n2*18446744073709551616+L):=by unfold Hid;rw [Xb hs hl,hn,hL]
 have HY:=lH hY
 clear hn hL hY
 obtain ⟨d1,hd1⟩:∃ n:Nat,n=Y / 4294967296:=⟨_,rfl⟩
 obtain ⟨d0,hd0⟩:∃ n:Nat,n=Y % 4294967296:=⟨_,rfl⟩
 obtain ⟨n1,hm1⟩:∃ n:Nat,n=L / 4294967296:=⟨_,rfl⟩
 obtain ⟨n0,hm0⟩:∃ n:Nat,n=L % 4294967296:=⟨_,rfl⟩
 have HYd:Hid (Y=d1*4294967296+d0):=Ia
 have HLd:Hid (L=n1*4294967296+n0):=Ia
 have E4:(Y:Int) / 4294967296=(d1:Int):=AA
 have E5:bits BinOp.and IntKind.u64 (Y:Int) 4294967295=(d0:Int):=by rw [Yf _ hn2,hd0]
 have E6:(L:Int) / 4294967296=(n1:Int):=AA
 have E7:bits BinOp.and IntKind.u64 (L:Int) 4294967295=(n0:Int):=by rw [Yf _ hL2,hm0]
 have b1:2147483648≤d1∧d1<4294967296:=AA
 have b2:d0<4294967296:=AA
 have b3:n1<4294967296:=AA
 have b4:n0<4294967296:=AA
 have hst:=Knuth.start (B:=4294967296) (n1:=n1) (d1:=d1) (d0:=d0) (n2:=n2) oM b2 b1.2 b3 (by have:=HYd.out;omega)
 obtain ⟨q0,hq0⟩:∃ n:Nat,n=n2 / d1:=⟨_,rfl⟩
 obtain ⟨r0,hr0⟩:∃ n:Nat,n=n2 % d1:=⟨_,rfl⟩
 obtain ⟨p0,hp0⟩:∃ n:Nat,n=n2 / d1*d1:=⟨_,rfl⟩
 rw [← hp0,← hr0,← hq0,← HYd.out] at hst
 obtain ⟨hst1,hst2,hst3',hst4⟩:=hst
 have hst3:q0≤4294967297:=hst3'
 clear hst3'
 have E8:(n2:Int) / d1=(q0:Int):=by rw [hq0];push_cast;rfl
 have E9:IntKind.u64.wrap ((q0:Int)*d1)=(p0:Int):=by rw [← Ix (n:=p0) oM,hp0,hq0];push_cast;rfl
 have E10:(n2:Int) - p0=(r0:Int):=AA
 have Hst:Hid (q0*d1+r0=n2):=by unfold Hid;rw [hq0,← hp0];exact hst1
 have Hst2:=lH hst2
 clear hst2 hst1 hq0 hr0 hp0 hd1 hd0 hm1 hm0
 go_enter Tryz.func318,Tryz.ntmps318
 go_wp2_with (fail)
 refine (vT y s Hs hy _).mono ?_
 rintro e w' ⟨rfl,rfl⟩
 obtain ⟨Q1,hQ1⟩:∃ n:Nat,n=(n2*4294967296+n1) / Y:=⟨_,rfl⟩
 rw [← hQ1] at Hst2
 have HQ1:=lH hQ1
 clear hQ1
 go_upto_block 0 with fail
 go_cut [15] (fun s15 wx=>s15 = .int .u64 Q1∧w=wx)
 case first =>
  go_wp2_with fail
  go_loop [15,16] (fun q r=>∃ q' r':Nat,q = .int .u64 q'∧r = .int .u64 r'∧q'≤4294967297∧r'<4294967296∧Hid (q'*d1+r'=n2)∧Hid (Q1≤q')) (fun q _=>(intOf q).toNat)
  case atStart=>exact ⟨q0,r0,rfl,rfl,hst3,hst4,Hst,Hst2⟩
  case round =>
   obtain ⟨q,r,rfl,rfl,hq,hr,h1,h2⟩:=hrel;clear E1 E2 E3 E4 E5 E6 E7 E8 E9 E10 hst3 hst4 Hst Hst2;by_cases hbig:4294967296≤q
   ·have hd:=Knuth.down (n1:=n1) b3 NU h1.out (.inl hbig);have A2q:=trivial;exact Y6
   have A2r:=trivial;exact Y7
 case rest =>
  obtain ⟨rfl,rfl⟩:=hcut;obtain ⟨U,hU0⟩:∃ n:Nat,n=(n2*4294967296+n1) % Y:=⟨_,rfl⟩;have hU:U<Y:=by rw [hU0];exact Nat.mod_lt _ oM
  have E21:=Yi HQ1.out hU0 oM;have HU:=lH hU0;clear hU0;have hst:=Knuth.start (B:=4294967296) (n1:=n0) (d1:=d1) (d0:=d0) (n2:=U) oM b2 b1.2 b4 (by have:=HYd.out;omega);obtain ⟨q1,hq1⟩:∃ n:Nat,n=U / d1:=⟨_,rfl⟩;obtain ⟨r1,hr1⟩:∃ n:Nat,n=U % d1:=⟨_,rfl⟩;obtain ⟨p1,hp1⟩:∃ n:Nat,n=U / d1*d1:=⟨_,rfl⟩;obtain ⟨Q0,hQ0⟩:∃ n:Nat,n=(U*4294967296+n0) / Y:=⟨_,rfl⟩;rw [← hp1,← hr1,← hq1,← HYd.out,← hQ0] at hst;obtain ⟨hst1,hst2,hst3',hst4⟩:=hst;have hst3:q1≤4294967297:=hst3';clear hst3';have E22:(U:Int) / d1=(q1:Int):=by rw [hq1];push_cast;rfl
  have E23:IntKind.u64.wrap ((q1:Int)*d1)=(p1:Int):=by rw [← Ix (n:=p1) oM,hp1,hq1];push_cast;rfl
  have E24:(U:Int) - p1=(r1:Int):=AA;have Hst3:Hid (q1*d1+r1=U):=by unfold Hid;rw [hq1,← hp1];exact hst1
  have Hst4:=lH hst2;obtain ⟨R,hR⟩:∃ n:Nat,n=(U*4294967296+n0) % Y:=⟨_,rfl⟩;have hR2:R<Y:=by rw [hR];exact Nat.mod_lt _ oM
  have E25:=Yi hQ0 hR oM;have htwo:=Knuth.two (n2:=n2) (n1:=n1) (n0:=n0) (y:=Y) (B:=4294967296) oM
  rw [← HU.out,← HQ1.out,← hQ0,← hR,show (n2*4294967296+n1)*4294967296+n0=(hi*18446744073709551616+lo)*2 ^ s by rw [Hu.out,HLd.out];omega,HY.out,
   Nat.mul_div_mul_right _ _ (Nat.two_pow_pos _),Nat.mul_mod_mul_right] at htwo
  rw [← HF.out,← HG.out] at htwo
  have E26:IntKind.u64.wrap (IntKind.u64.wrap ((Q1:Int)*4294967296)+Q0)=(F:Int):=by
   rw [uC,← Ix hF2];congr 1;omega
  have E27:(R:Int) / 2 ^ s=(G:Int):=by
   rw [htwo.2,Int.natCast_mul,Int.natCast_pow];exact Int.mul_ediv_cancel _ (Int.ne_of_gt (Int.pow_pos dC))
  have HQ0:=lH hQ0;clear hst2 hst1 hq1 hr1 hp1 hQ0 hR htwo;go_upto_block 2 with fail
  go_cut [18] (fun s18 wx=>s18 = .int .u64 Q0∧w=wx)
  case first =>
   (go_wp2_with fail);go_loop [18,16] (fun q r=>∃ q' r':Nat,q = .int .u64 q'∧r = .int .u64 r'∧q'≤4294967297∧r'<4294967296∧Hid (q'*d1+r'=U)∧Hid (Q0≤q')) (fun q _=>(intOf q).toNat)
   case atStart=>exact ⟨q1,r1,rfl,rfl,hst3,hst4,Hst3,Hst4⟩
   case round =>
    obtain ⟨q,r,rfl,rfl,hq,hr,h1,h2⟩:=hrel;clear E1 E2 E3 E4 E5 E6 E7 E8 E9 E10 E21 E22 E23 E24 E25 E26 E27 hst3 hst4 Hst Hst2 Hst3 Hst4;by_cases hbig:4294967296≤q
    ·have hd:=Knuth.down (n1:=n0) b4 NV h1.out (.inl hbig);have A2s:=trivial;exact Y8
    exact Y7
  case rest =>
   obtain ⟨rfl,rfl⟩:=hcut;go_wp2;go_ret2;exact ⟨rfl,Below.refl _ _⟩
def Eg (a b c:Int):Bool:=AH a && AH b && Ad c 1 1125899906842624
def dv (a b c:Int):Bool:=Eg a b c && dk a b c
def Fz (a b c:Int):Int:=if dv a b c=true then a*b / c else 0
def Hg (a b c:Int):Int:=if dv a b c=true then a*b % c else 0
theorem YT {a b c:Int} (h:Eg a b c=true):(0≤a∧a≤1125899906842624)∧(0≤b∧b≤1125899906842624)∧1≤c∧c≤1125899906842624:=by simpa [Eg,AH,Ad,and_assoc] using h
theorem xM {a b c:Int} (h:(0≤a∧a≤1125899906842624)∧(0≤b∧b≤1125899906842624)∧1≤c∧c≤1125899906842624):Eg a b c=true:=by simpa [Eg,AH,Ad,and_assoc] using h
theorem Qm {a b c:Int} (h:Eg a b c=true):dv a b c=dk a b c∧Fz a b c=dq a b c∧Hg a b c=dr a b c:=by simp [dv,Fz,Hg,dq,dr,h]
theorem Wt {a b c:Int} (h:Eg a b c=false):dv a b c=false∧Fz a b c=0∧Hg a b c=0:=by simp [dv,Fz,Hg,h]
theorem Uf (a b c:Int):0≤Fz a b c∧Fz a b c≤1125899906842624:=by
 cases h:Eg a b c with
 | false=>rw [(Wt h).2.1];omega
 | true=>rw [(Qm h).2.1];have hb:=YT h;exact vz hb.1.1 hb.2.1.1 hb.2.2.1
theorem xd (a b:Nat) (ha:a≤1125899906842624) (hb:b≤1125899906842624) (w:World):Calls Tryz.prog 317 #[.int .u64 a, .int .u64 b] w fun e w' =>
 e = .returned (.tuple #[.int .u64 ((a*b / 18446744073709551616:Nat):Int), .int .u64 ((a*b % 18446744073709551616:Nat):Int)])∧w=w' :=
 (Tryz.bits_Mul64 a b oM oM w).mono fun e w' ⟨he,hw⟩=>⟨he,hw.symm⟩
theorem te {a b c:Nat} (hc:1≤c) (h:c≤a*b / 18446744073709551616):dk a b c=false:=by
 have h1:18446744073709551616≤a*b / c:=by
  rw [Nat.le_div_iff_mul_le hc];have:=Nat.div_mul_le_self (a*b) 18446744073709551616
  have h2:=Nat.mul_le_mul_right 18446744073709551616 h;exact Nat.le_trans (by rw [Nat.mul_comm];exact h2) this
 unfold dk;rw [decide_eq_false_iff_not];intro h3;have:((a*b / c:Nat):Int)≤1125899906842624:=by rw [Int.natCast_ediv,Int.natCast_mul];exact h3
 omega
theorem vS (a b c:Nat):dk a b c=decide (a*b / c≤1125899906842624):=by
 unfold dk;rw [decide_eq_decide,← Int.natCast_mul,← Int.natCast_ediv];omega
theorem QL (a b c:Int) (w:World):Calls Tryz.prog 316 #[a,b,c] w fun e w' =>
 e = .returned (.tuple #[Fz a b c,Hg a b c,dv a b c])∧Below w w w':=by
 by_cases hin:Eg a b c=true;rotate_left
 ·obtain ⟨e1,e2,e3⟩:=Wt (Bool.eq_false_iff.2 hin);rw [e1,e2,e3];clear e1 e2 e3;by_cases h1:AH a=true;rotate_left
  ·exact Qy
  by_cases h2:AH b=true
  ·(have h3:Ad c 1 1125899906842624=false:=by simpa [Eg,h1,h2] using hin);exact Qy
  exact Qy
 obtain ⟨e1,e2,e3⟩:=Qm hin
 rw [e1,e2,e3]
 clear e1 e2 e3
 obtain ⟨ha,hb,hc⟩:=YT hin
 have t1:AH a=true:=decide_eq_true ha
 have t2:AH b=true:=decide_eq_true hb
 have t3:Ad c 1 1125899906842624=true:=decide_eq_true hc
 clear hin
 obtain ⟨a,rfl⟩:=Int.eq_ofNat_of_zero_le ha.1
 obtain ⟨b,rfl⟩:=Int.eq_ofNat_of_zero_le hb.1
 obtain ⟨c,rfl⟩:=Int.eq_ofNat_of_zero_le (show 0≤c by omega)
 obtain ⟨ha0,ha⟩:=ha
 obtain ⟨hb0,hb⟩:=hb
 obtain ⟨hc0,hc⟩:=hc
 obtain ⟨hi,hhi⟩:∃ n:Nat,n=a*b / 18446744073709551616:=⟨_,rfl⟩
 obtain ⟨lo,hlo⟩:∃ n:Nat,n=a*b % 18446744073709551616:=⟨_,rfl⟩
 have hlo2:lo<18446744073709551616:=by rw [hlo];exact Nat.mod_lt _ oM
 have hm:=xd a b oM oM w
 rw [← hhi,← hlo] at hm
 have Hm:=lH hm
 have Hab:Hid (hi*18446744073709551616+lo=a*b):=by unfold Hid;rw [hhi,hlo];have:=Nat.div_add_mod (a*b) 18446744073709551616;omega
 clear hm
 by_cases hge:c≤hi
 ·have Hk:=lH (te (a:=a) (b:=b) (show 1≤c by omega) (by rw [← hhi];exact hge));clear hhi hlo;go_enter Tryz.func316,Tryz.ntmps316
  go_wp2_with (first | (go_at_call 317;refine Hm.out.mono ?_;rintro e w1 ⟨rfl,rfl⟩) | ((first | (go_at_call 231;refine (Az _ _).mono ?_) | (go_at_call 124;refine (Cy _ _ _ _).mono ?_) | (go_at_call 318;refine (Kg _ _ _ _ oM oM oM).mono ?_));(first | (rintro e w1 ⟨rfl,rfl⟩) | (rintro e w1 ⟨rfl,hb⟩;(try (replace H0:=A7 H0 hb bS;clear hc0 hf0 hs0 hz0;obtain ⟨hc0,hf0,hs0,hz0⟩:=AS H0));(try (replace H1:=A7 H1 hb bS;clear hc1 hf1 hs1 hz1;obtain ⟨hc1,hf1,hs1,hz1⟩:=AS H1));(try (replace H2:=A7 H2 hb bS;clear hc2 hf2 hs2 hz2;obtain ⟨hc2,hf2,hs2,hz2⟩:=AS H2));(try replace S0:=S0.keep (AD hb bS));(try replace S1:=S1.keep (AD hb bS));(try replace S2:=S2.keep (AD hb bS));(try replace S3:=S3.keep (AD hb bS));(first | ((fail_if_success (have ht:=H0));have H0:=hb;obtain ⟨hc0,hf0,hs0,hz0⟩:=AS H0) | ((fail_if_success (have ht:=H1));have H1:=hb;obtain ⟨hc1,hf1,hs1,hz1⟩:=AS H1) | ((fail_if_success (have ht:=H2));have H2:=hb;obtain ⟨hc2,hf2,hs2,hz2⟩:=AS H2) | skip)))))
  go_ret3;exact ⟨Y9,Below.refl _ _⟩
 obtain ⟨q,hq⟩:∃ n:Nat,n=a*b / c:=⟨_,rfl⟩
 obtain ⟨r,hr⟩:∃ n:Nat,n=a*b % c:=⟨_,rfl⟩
 have hr2:r<c:=by rw [hr];exact Nat.mod_lt _ oM
 have hd:=fun W=>Kg hi lo c W oM oM hlo2
 rw [Hab.out,← hq,← hr] at hd
 have Hd:=lH hd
 have Hk:Hid (dk a b c=decide (q≤1125899906842624)):=by unfold Hid;rw [vS,← hq]
 have hq64:q<18446744073709551616:=by
  rw [hq,Nat.div_lt_iff_lt_mul oM];rw [hhi] at hge;have:=Nat.div_add_mod (a*b) 18446744073709551616
  have:=Nat.mod_lt (a*b) (show 0<18446744073709551616 by omega)
  have h2:(a*b / 18446744073709551616+1)*18446744073709551616≤c*18446744073709551616:=Nat.mul_le_mul_right _ oM;rw [Nat.mul_comm 18446744073709551616 c];omega
 have Hq:=lH hq
 have Hr:=lH hr
 clear hhi hlo hd hq hr
 have k1:¬ ((c:Int)≤hi):=AA
 have k3:(r:Int)<c:=AA
 by_cases hbig:1125899906842624<q
 ·have Hk2:Hid (dk a b c=false):=by unfold Hid;rw [Hk.out,decide_eq_false_iff_not];omega
  have k5:(1125899906842624:Int)<q:=AA;clear hge hr2 hq64 hbig hlo2;go_enter Tryz.func316,Tryz.ntmps316
  go_wp2_with (first | (go_at_call 317;refine Hm.out.mono ?_;rintro e w1 ⟨rfl,rfl⟩) | (go_at_call 318;refine (Hd.out _).mono ?_;rintro e w1 ⟨rfl,hb1⟩) | ((first | (go_at_call 231;refine (Az _ _).mono ?_) | (go_at_call 124;refine (Cy _ _ _ _).mono ?_) | (go_at_call 318;refine (Kg _ _ _ _ oM oM oM).mono ?_));(first | (rintro e w1 ⟨rfl,rfl⟩) | (rintro e w1 ⟨rfl,hb⟩;(try (replace H0:=A7 H0 hb bS;clear hc0 hf0 hs0 hz0;obtain ⟨hc0,hf0,hs0,hz0⟩:=AS H0));(try (replace H1:=A7 H1 hb bS;clear hc1 hf1 hs1 hz1;obtain ⟨hc1,hf1,hs1,hz1⟩:=AS H1));(try (replace H2:=A7 H2 hb bS;clear hc2 hf2 hs2 hz2;obtain ⟨hc2,hf2,hs2,hz2⟩:=AS H2));(try replace S0:=S0.keep (AD hb bS));(try replace S1:=S1.keep (AD hb bS));(try replace S2:=S2.keep (AD hb bS));(try replace S3:=S3.keep (AD hb bS));(first | ((fail_if_success (have ht:=H0));have H0:=hb;obtain ⟨hc0,hf0,hs0,hz0⟩:=AS H0) | ((fail_if_success (have ht:=H1));have H1:=hb;obtain ⟨hc1,hf1,hs1,hz1⟩:=AS H1) | ((fail_if_success (have ht:=H2));have H2:=hb;obtain ⟨hc2,hf2,hs2,hz2⟩:=AS H2) | skip)))))
  go_ret3;exact ⟨by unfold dq dr;rw [Hk2.out];rfl,hb1⟩
 have Hk2:Hid (dk a b c=true):=by unfold Hid;rw [Hk.out,decide_eq_true_iff];omega
 have Hq2:Hid (dq a b c=q∧dr a b c=r):=by
  unfold Hid dq dr;rw [if_pos Hk2.out,if_pos Hk2.out,Hq.out,Hr.out,Int.natCast_ediv,Int.natCast_emod,Int.natCast_mul];exact EI
 have k5:¬ ((1125899906842624:Int)<q):=AA
 clear hge hr2 hq64 hbig hlo2
 go_enter Tryz.func316,Tryz.ntmps316
 go_wp2_with (first | (go_at_call 317;refine Hm.out.mono ?_;rintro e w1 ⟨rfl,rfl⟩) | (go_at_call 318;refine (Hd.out _).mono ?_;rintro e w1 ⟨rfl,hb1⟩) | ((first | (go_at_call 231;refine (Az _ _).mono ?_) | (go_at_call 124;refine (Cy _ _ _ _).mono ?_) | (go_at_call 318;refine (Kg _ _ _ _ oM oM oM).mono ?_));(first | (rintro e w1 ⟨rfl,rfl⟩) | (rintro e w1 ⟨rfl,hb⟩;(try (replace H0:=A7 H0 hb bS;clear hc0 hf0 hs0 hz0;obtain ⟨hc0,hf0,hs0,hz0⟩:=AS H0));(try (replace H1:=A7 H1 hb bS;clear hc1 hf1 hs1 hz1;obtain ⟨hc1,hf1,hs1,hz1⟩:=AS H1));(try (replace H2:=A7 H2 hb bS;clear hc2 hf2 hs2 hz2;obtain ⟨hc2,hf2,hs2,hz2⟩:=AS H2));(try replace S0:=S0.keep (AD hb bS));(try replace S1:=S1.keep (AD hb bS));(try replace S2:=S2.keep (AD hb bS));(try replace S3:=S3.keep (AD hb bS));(first | ((fail_if_success (have ht:=H0));have H0:=hb;obtain ⟨hc0,hf0,hs0,hz0⟩:=AS H0) | ((fail_if_success (have ht:=H1));have H1:=hb;obtain ⟨hc1,hf1,hs1,hz1⟩:=AS H1) | ((fail_if_success (have ht:=H2));have H2:=hb;obtain ⟨hc2,hf2,hs2,hz2⟩:=AS H2) | skip)))))
 go_ret3
 exact ⟨by rw [Hk2.out,Hq2.out.1,Hq2.out.2];rfl,hb1⟩
def Fx (p n:Int) (up:Bool):Int:=Fz n p 1000000+if up=true∧0<Hg n p 1000000 then 1 else 0
def Be (b p n:Int) (up:Bool):Bool:=dv n p 1000000 && decide (p≤1000000) && CE b (Fx p n up)
def EC (b p n:Int) (up:Bool):Int:=if Be b p n up=true then b+Fx p n up else 0
theorem Wu {b p n:Int} {up:Bool} (h:Be b p n up=true):EC b p n up=b+Fx p n up:=if_pos h
theorem Ut {b p n:Int} {up:Bool} (h:Be b p n up=false):EC b p n up=0:=if_neg LS
theorem uP (b p n:Int) (up:Bool):0≤EC b p n up∧EC b p n up≤1125899906842624:=by
 cases h:Be b p n up with
 | false=>rw [Ut h];omega
 | true =>
  rw [Wu h];simp only [Be,Bool.and_eq_true] at h;have:=NO h.2
  omega
theorem M8 {b p n:Int} {up:Bool} (h:dv n p 1000000=false):Be b p n up=false:=by simp [Be,h]
theorem Xh {b p n:Int} {up:Bool} (h:1000000<p):Be b p n up=false:=by
 have:¬ p≤1000000:=AA
 simp [Be,this]
theorem A0D {b p n:Int} {up:Bool} (h:dv n p 1000000=true) (h2:p≤1000000):Be b p n up=CE b (Fx p n up):=by simp [Be,h,h2]
theorem zG {n p:Int} (h:p<0):dv n p 1000000=false:=by
 have:AH p=false:=decide_eq_false oM
 simp [dv,Eg,this]
theorem zQ {n p:Int} (h:AH n=false):dv n p 1000000=false:=by simp [dv,Eg,h]
theorem A05 {b p n:Int} {up:Bool} (h:AH b=false):Be b p n up=false:=by simp [Be,CE,h]
theorem xT (b p n:Int) (up:Bool) (w:World):Calls Tryz.prog 307 #[b,p,n,up] w fun e w' =>
 e = .returned (.tuple #[EC b p n up,Be b p n up])∧Below w w w':=by
 cases hdv0:dv n p 1000000
 ·have Hf:=lH (M8 (b:=b) (up:=up) hdv0);exact ZB
 by_cases hp:p≤1000000;rotate_left
 ·have Hf:=lH (Xh (b:=b) (n:=n) (up:=up) (p:=p) oM);exact ZB
 have hdv:=lH hdv0
 have hd:=fun W=>QL n p 1000000 W
 obtain ⟨Q,hQ⟩:∃ Q,Q=Fz n p 1000000:=⟨_,rfl⟩
 obtain ⟨R,hR⟩:∃ R,R=Hg n p 1000000:=⟨_,rfl⟩
 have hQb:=Uf n p 1000000
 rw [← hQ] at hQb
 rw [← hQ,← hR,hdv0] at hd
 have Hd:=lH hd
 have HQ:=lH hQ
 have HR:=lH hR
 clear hd hQ hR hdv0
 by_cases hup:up=true∧0<R
 ·obtain ⟨rfl,hr⟩:=hup;have Hq:Hid (Fx p n true=Q+1):=ZD
  cases ha:CE b (Q+1) with
  | true =>
   exact ZE
  | false =>
   exact ZF
 have Hq:Hid (Fx p n up=Q):=ZG
 cases up with
 | true =>
  have hr:¬ 0<R:=fun h=>hup ⟨rfl,h⟩;clear hup
  cases ha:CE b Q with
  | true =>
   exact ZE
  | false =>
   exact ZF
 | false =>
  clear hup
  cases ha:CE b Q with
  | true =>
   have Hf:Hid (Be b p n false=true):=Ib;exact ZH
  | false =>
   have Hf:Hid (Be b p n false=false):=Ib;exact Qz
theorem A0b (b p n:Int) (up:Bool) (w:World):Calls Tryz.prog 302 #[b,p,n,up] w fun e w' =>
 e = .returned (.tuple #[EC b p n up,Be b p n up])∧w=w':=by
 by_cases h1:AH b=true;rotate_left
 ·have Hf:=lH (A05 (n:=n) (p:=p) (up:=up) (Bool.eq_false_iff.2 h1));exact RA
 by_cases h2:AH n=true;rotate_left
 ·have Hf:=lH (M8 (b:=b) (up:=up) (zQ (p:=p) (Bool.eq_false_iff.2 h2)));exact RA
 by_cases h3:p<0
 ·have Hf:=lH (M8 (b:=b) (up:=up) (zG (n:=n) h3));exact RA
 by_cases hp:p≤1000000
 ·have hn:=Kh h2;have hin:Eg n p 1000000=true:=xM oM;have e:=Qm hin;have hd:=fun W=>M4 n p 1000000 W oM oM oM;rw [← e.1,← e.2.1,← e.2.2] at hd;clear e hin;cases hdv0:dv n p 1000000
  ·rw [hdv0] at hd;have Hd:=lH hd;have Hf:=lH (M8 (b:=b) (up:=up) hdv0);clear hd hdv0;exact RC
  have hdv:=lH hdv0;obtain ⟨Q,hQ⟩:∃ Q,Q=Fz n p 1000000:=⟨_,rfl⟩;obtain ⟨R,hR⟩:∃ R,R=Hg n p 1000000:=⟨_,rfl⟩;have hQb:=Uf n p 1000000;rw [← hQ] at hQb;rw [← hQ,← hR,hdv0] at hd;have Hd:=lH hd;have HQ:=lH hQ;have HR:=lH hR;clear hd hQ hR hdv0;by_cases hup:up=true∧0<R
  ·obtain ⟨rfl,hr⟩:=hup;have Hq:Hid (Fx p n true=Q+1):=ZD
   cases ha:CE b (Q+1) with
   | true =>
    exact ZI
   | false =>
    exact ZJ
  have Hq:Hid (Fx p n up=Q):=ZG
  cases up with
  | true =>
   have hr:¬ 0<R:=fun h=>hup ⟨rfl,h⟩;clear hup
   cases ha:CE b Q with
   | true =>
    exact ZI
   | false =>
    exact ZJ
  | false =>
   clear hup
   cases ha:CE b Q with
   | true =>
    have Hf:Hid (Be b p n false=true):=Ib;exact RD
   | false =>
    have Hf:Hid (Be b p n false=false):=Ib;exact RC
 have Hf:=lH (Xh (b:=b) (n:=n) (up:=up) (p:=p) oM)
 go_enter Tryz.func302,Tryz.ntmps302
 go_wp2_with (((first | (go_at_call 233;refine (BP _ _).mono ?_) | (go_at_call 315;refine (M4 _ _ _ _ oM oM oM).mono ?_) | (go_at_call 150;refine (J4 _ _ _).mono ?_));rintro e w1 ⟨rfl,rfl⟩))
 go_ret2
 exact ⟨LT,rfl⟩
theorem vO (b p n:Int) (w:World):Calls Tryz.prog 263 #[b,p,n] w fun e w' =>
 e = .returned (.tuple #[EC b p n true,Be b p n true])∧Below w w w':=by
 go_enter Tryz.func263,Tryz.ntmps263
 go_wp2_with (((go_at_call 307;refine (xT _ _ _ _ _).mono ?_);(rintro e w1 ⟨rfl,hb⟩;(try (replace H0:=A7 H0 hb bS;clear hc0 hf0 hs0 hz0;obtain ⟨hc0,hf0,hs0,hz0⟩:=AS H0));(try (replace H1:=A7 H1 hb bS;clear hc1 hf1 hs1 hz1;obtain ⟨hc1,hf1,hs1,hz1⟩:=AS H1));(try (replace H2:=A7 H2 hb bS;clear hc2 hf2 hs2 hz2;obtain ⟨hc2,hf2,hs2,hz2⟩:=AS H2));(try replace S0:=S0.keep (AD hb bS));(try replace S1:=S1.keep (AD hb bS));(try replace S2:=S2.keep (AD hb bS));(try replace S3:=S3.keep (AD hb bS));(first | ((fail_if_success (have ht:=H0));have H0:=hb;obtain ⟨hc0,hf0,hs0,hz0⟩:=AS H0) | ((fail_if_success (have ht:=H1));have H1:=hb;obtain ⟨hc1,hf1,hs1,hz1⟩:=AS H1) | ((fail_if_success (have ht:=H2));have H2:=hb;obtain ⟨hc2,hf2,hs2,hz2⟩:=AS H2) | skip))))
 go_ret2
 exact ⟨rfl,bW⟩
theorem xZ (b p n:Int) (w:World):Calls Tryz.prog 246 #[b,p,n] w fun e w' =>
 e = .returned (.tuple #[EC b p n true,Be b p n true])∧w=w':=by
 go_enter Tryz.func246,Tryz.ntmps246
 go_wp2_with (((go_at_call 302;refine (A0b _ _ _ _ _).mono ?_);rintro e w1 ⟨rfl,rfl⟩))
 go_ret2
 exact ⟨rfl,rfl⟩
section
structure Bk where
 tick:Int
 next:Int
 wallet:Int
 chans:List Cn
 htlcs:List Ht
 circles:List Ci
def Bk.zero:Bk:=⟨0,0,0,[],[],[]⟩
def Bk.new:Bk:=⟨0,1,0,[],[],[]⟩
def Cn.zero:Cn:=⟨0,0,0,0,0,0,0⟩
def Ht.zero:Ht:=⟨0,0,0,0,0,false,0⟩
def Ci.zero:Ci:=⟨0,0,0,0,0⟩
def Po.zero:Po:=⟨0,[]⟩
def BS (ch:Int) (h:Ht):Int:=if h.out=ch then h.aout else 0
def Bb (ch:Int) (h:Ht):Int:=if h.inn=ch then h.ain else 0
def CY (ch:Int) (c:Ci):Int:=if c.frm=ch then c.amt+c.fee else 0
def Bu (ch:Int) (c:Ci):Int:=if c.tw=ch then c.amt else 0
def BJ (b:Bk) (ch:Int):Int:=(b.htlcs.map (BS ch)).sum+(b.circles.map (CY ch)).sum
def BU (b:Bk) (ch:Int):Int:=(b.htlcs.map (Bb ch)).sum+(b.circles.map (Bu ch)).sum
def AI (l:List Cn) (ch:Int):Bool:=l.any fun c=>decide (c.id=ch)
def D9 (l:List Cn) (ch:Int):Int:=match l.findIdx? fun c=>decide (c.id=ch) with
 | some i=>i
 | none => -1
def AM (l:List Cn) (ch:Int):Cn:=(l.find? fun c=>decide (c.id=ch)).getD Cn.zero
def Cp (l:List Cn) (x y:Int):Bool := !decide (x=y) && (AI l x && AI l y)
def Dy (l:List Cn) (h:Ht):Bool:=AH h.ain && decide (1≤h.aout∧h.aout≤h.ain) && AH h.age && Cp l h.inn h.out
def D0 (l:List Cn) (c:Ci):Bool:=AH c.amt && decide (1≤c.amt) && AH c.fee && Cp l c.frm c.tw
def A1 (b:Bk):List Int:=b.htlcs.map (·.key) ++ b.circles.map (·.key)
def EU (l:List Int) (n:Int):Bool:=l.any fun x=>decide (x=n)
def DT:List Int→List Int→Bool
 | _,[]=>true
 | seen,k :: r=>Gh k && !EU seen k && DT (seen ++ [k]) r
def Fb (l:List Int):Bool:=DT [] l
def CW (b:Bk):Bool:=decide (b.htlcs.length≤60) && decide (b.circles.length≤20) && b.htlcs.all (Dy b.chans) && b.circles.all (D0 b.chans) && Fb (A1 b)
def BI (n:Int):Bool:=Ad n (-100) 100
def Er (b:Bk) (c:Cn):Bool:=Et c.id && AH c.loc && AH c.rem && AH c.base && Ad c.ppm 0 1000000 && BI c.score && AH c.size && decide (c.size=c.loc+c.rem+BJ b c.id+BU b c.id)
def K3:List Cn→Bool
 | []=>true
 | [_]=>true
 | x :: y :: r=>decide (x.id<y.id) && K3 (y :: r)
def Fy (b:Bk) (l:List Cn):Bool:=l.all (Er b) && K3 l
def Ak (b:Bk):Bool:=AH b.tick && AH b.wallet && Ad b.next 1 1125899906842624 && decide (b.chans.length≤20) && CW b && Fy b b.chans
def A4:List (Bool × Int)→Int
 | []=>0
 | (b,c) :: r=>if b=true then c else A4 r
def Aw (b:Bk) (key:Int):Bool:=b.htlcs.any fun h=>decide (h.key=key)
def Ay (b:Bk) (key:Int):Bool:=b.circles.any fun c=>decide (c.key=key)
def Ac (b:Bk) (key:Int):Ht:=(b.htlcs.find? fun h=>decide (h.key=key)).getD Ht.zero
def AW (b:Bk) (key:Int):Ci:=(b.circles.find? fun c=>decide (c.key=key)).getD Ci.zero
def DH (b:Bk) (ch:Int):Bool:=b.htlcs.any (fun h=>decide (h.inn=ch∨h.out=ch)) || b.circles.any fun c=>decide (c.frm=ch∨c.tw=ch)
def Co (n:Int):Int:=if BI n=true then min (n+10) 100 else 0
def Ch (n:Int):Int:=if BI n=true then max (n - 15) (-100) else 0
def DR (n:Int):Int:=if BI n=true then (if 0<n then n - 1 else if n<0 then n+1 else 0) else 0
def Cz (size few all sf sa amt:Int) (good:Bool):Int :=
 if (AH size && AH few && AH all && AH amt && decide (0≤sf∧0≤sa∧few≤all∧sf≤sa))=false then 0
 else if ¬ (sa<10∧all+amt≤size) then 0 else if sf<5∧few+amt≤size / 2 then 1 else if good=true then 2 else 0
def J3 (score:Int) (yes:Bool):Bool:=BI score && decide (20≤score) && yes
def Bp (l:List Ht) (ch:Int):Int × Int × Int × Int:=l.foldl (fun s h=>if h.out=ch then (if h.kept=true then (s.1,s.2.1+h.aout,s.2.2.1,s.2.2.2+1) else (s.1+h.aout,s.2.1+h.aout,s.2.2.1+1,s.2.2.2+1)) else s) (0,0,0,0)
def ED (b:Bk) (from_ to_:Cn) (ch amt:Int) (yes:Bool):Int:=Cz to_.size (Bp b.htlcs ch).1 (Bp b.htlcs ch).2.1 (Bp b.htlcs ch).2.2.1 (Bp b.htlcs ch).2.2.2 amt (J3 from_.score yes)
def AQ (b:Bk) (e:Ev):Int:=A4 ((decide (b.next=1125899906842624),2) ::
 (if e.kind=1 then [(decide (1125899906842624<b.wallet+e.amt),2)]
 else if e.kind=2 then [(decide (1125899906842624<e.amt+e.fee),2),(AI b.chans e.ch || decide (20≤b.chans.length),3),(decide (b.wallet<e.amt),4)]
 else if e.kind=3 then [(AI b.chans e.ch && decide (1125899906842624<b.wallet+(AM b.chans e.ch).loc - e.fee),2),(!AI b.chans e.ch,6),(DH b e.ch,7),(decide ((AM b.chans e.ch).loc<e.fee),8)]
 else if e.kind=4 then [(!AI b.chans e.ch,6)]
 else if e.kind=5 then [(Aw b e.key || Ay b e.key,9),(!(AI b.chans e.ch && AI b.chans e.tw),6),(decide (60≤b.htlcs.length),14),(!(Be (AM b.chans e.tw).base (AM b.chans e.tw).ppm e.amt true && CE e.amt (EC (AM b.chans e.tw).base (AM b.chans e.tw).ppm e.amt true)),10),
  (decide ((AM b.chans e.ch).rem<e.amt+EC (AM b.chans e.tw).base (AM b.chans e.tw).ppm e.amt true),11),(decide ((AM b.chans e.tw).loc<e.amt),12),(decide (ED b (AM b.chans e.ch) (AM b.chans e.tw) e.tw e.amt e.yes=0),13)]
 else if e.kind=6∨e.kind=7 then [(!Aw b e.key,15)]
 else if e.kind=8 then [(decide (b.tick=1125899906842624),2)]
 else if e.kind=9 then [(Aw b e.key || Ay b e.key,9),(!(AI b.chans e.ch && AI b.chans e.tw),6),(decide (20≤b.circles.length),14),(decide (1125899906842624<e.amt+e.fee),10),(decide ((AM b.chans e.ch).loc<e.amt+e.fee),12),(decide ((AM b.chans e.tw).rem<e.amt),11)]
 else [(!Ay b e.key,15)]))
def AU (l:List Cn) (ch:Int) (f:Cn→Cn):List Cn:=l.map fun c=>if c.id=ch then f c else c
def AO (dl dr:Int) (c:Cn):Cn:={c with loc:=c.loc+dl,rem:=c.rem+dr}
def A6:List Cn→Cn→List Cn
 | [],c => [c]
 | x :: r,c=>if c.id<x.id then c :: x :: r else x :: A6 r c
def BL (l:List Ln):List Ln:=l.filter fun x => !decide (x.amt=0)
def Bw (h:Ht):Ht:={h with age:=min (h.age+1) 1125899906842624}
def Ef (c:Cn):Cn:={c with score:=DR c.score}
def Ea (b:Bk) (e:Ev):Int:=e.amt+EC (AM b.chans e.tw).base (AM b.chans e.tw).ppm e.amt true
def Al (b:Bk) (e:Ev):Bk × List Ln :=
 if e.kind=1 then ({b with wallet:=b.wallet+e.amt},BL [⟨1,0,e.amt⟩,⟨2,0,-e.amt⟩])
 else if e.kind=2 then ({b with chans:=A6 b.chans ⟨e.ch,e.amt+e.fee,e.amt,e.fee,0,0,0⟩,wallet:=b.wallet - e.amt},BL [⟨1,0,-e.amt⟩,⟨6,e.ch,e.amt⟩])
 else if e.kind=3 then ({b with chans:=b.chans.filter (fun c => !decide (c.id=e.ch)),wallet:=b.wallet+(AM b.chans e.ch).loc - e.fee},BL [⟨1,0,(AM b.chans e.ch).loc - e.fee⟩,⟨5,0,e.fee⟩,⟨6,e.ch,-(AM b.chans e.ch).loc⟩])
 else if e.kind=4 then ({b with chans:=AU b.chans e.ch fun c=>{c with base:=e.amt,ppm:=e.fee}},[])
 else if e.kind=5 then ({b with htlcs:=b.htlcs ++ [⟨e.key,e.ch,e.tw,Ea b e,e.amt,decide (ED b (AM b.chans e.ch) (AM b.chans e.tw) e.tw e.amt e.yes=2),0⟩],chans:=AU (AU b.chans e.ch (AO 0 (-(Ea b e)))) e.tw (AO (-e.amt) 0)},BL [⟨6,e.tw,-e.amt⟩,⟨8,e.tw,e.amt⟩])
 else if e.kind=6 then ({b with htlcs:=b.htlcs.filter (fun h => !decide (h.key=e.key)),chans:=AU (AU (AU b.chans (Ac b e.key).inn (AO (Ac b e.key).ain 0)) (Ac b e.key).out (AO 0 (Ac b e.key).aout)) (Ac b e.key).inn (fun c=>{c with score:=Co c.score})},
  BL [⟨3,0,(Ac b e.key).aout - (Ac b e.key).ain⟩,⟨6,(Ac b e.key).inn,(Ac b e.key).ain⟩,⟨8,(Ac b e.key).out,-(Ac b e.key).aout⟩])
 else if e.kind=7 then ({b with htlcs:=b.htlcs.filter (fun h => !decide (h.key=e.key)),chans:=AU (AU (AU b.chans (Ac b e.key).inn (AO 0 (Ac b e.key).ain)) (Ac b e.key).out (AO (Ac b e.key).aout 0)) (Ac b e.key).inn (fun c=>{c with score:=Ch c.score})},
  BL [⟨6,(Ac b e.key).out,(Ac b e.key).aout⟩,⟨8,(Ac b e.key).out,-(Ac b e.key).aout⟩])
 else if e.kind=8 then ({b with tick:=b.tick+1,htlcs:=b.htlcs.map Bw,chans:=if (b.tick+1) % 5=0 then b.chans.map Ef else b.chans},[])
 else if e.kind=9 then ({b with circles:=b.circles ++ [⟨e.key,e.ch,e.tw,e.amt,e.fee⟩],chans:=AU (AU b.chans e.ch (AO (-(e.amt+e.fee)) 0)) e.tw (AO 0 (-e.amt))},BL [⟨6,e.ch,-(e.amt+e.fee)⟩,⟨8,e.ch,e.amt+e.fee⟩])
 else if e.kind=10 then ({b with circles:=b.circles.filter (fun c => !decide (c.key=e.key)),chans:=AU (AU b.chans (AW b e.key).frm (AO 0 ((AW b e.key).amt+(AW b e.key).fee))) (AW b e.key).tw (AO (AW b e.key).amt 0)},
  BL [⟨4,0,(AW b e.key).fee⟩,⟨6,(AW b e.key).tw,(AW b e.key).amt⟩,⟨8,(AW b e.key).frm,-((AW b e.key).amt+(AW b e.key).fee)⟩])
 else ({b with circles:=b.circles.filter (fun c => !decide (c.key=e.key)),chans:=AU (AU b.chans (AW b e.key).frm (AO ((AW b e.key).amt+(AW b e.key).fee) 0)) (AW b e.key).tw (AO 0 (AW b e.key).amt)},
  BL [⟨6,(AW b e.key).frm,(AW b e.key).amt+(AW b e.key).fee⟩,⟨8,(AW b e.key).frm,-((AW b e.key).amt+(AW b e.key).fee)⟩])
def Aq (b:Bk) (e:Ev):Int × Bk × Po :=
 if (Ak b && e.good)=false then (1,Bk.zero,Po.zero) else if AQ b e≠0 then (AQ b e,Bk.zero,Po.zero)
 else if (Al b e).2 = [] then (0,(Al b e).1,Po.zero) else (0,{(Al b e).1 with next:=b.next+1},⟨b.next,(Al b e).2⟩)
structure Aa where
 book:Bk
 ps:List Po
 codes:List Int
def Cw (s:Aa) (e:Ev):Aa:=if (Aq s.book e).1≠0 then {s with codes:=s.codes ++ [(Aq s.book e).1]} else ⟨(Aq s.book e).2.1,if (Aq s.book e).2.2.lines = [] then s.ps else s.ps ++ [(Aq s.book e).2.2],s.codes ++ [0]⟩
def Bo (b:Bk) (es:List Ev):Aa:=if Ak b=false then ⟨Bk.zero,[],[]⟩ else es.foldl Cw ⟨b,[],[]⟩
structure Hb where
 log:Lo
 book:Bk
 ledger:Lg
 wait:List Ev
 sent:List Ev
def Hb.zero:Hb:=⟨Lo.zero,Bk.zero,Lg.zero,[],[]⟩
structure Wd where
 up:Bool
 hub:Hb
 disk:Dk
 took:List Ev
 sent:List Ev
 codes:List Int
structure Rp where
 book:Bk
 ledger:Lg
 ok:Bool
def BB (es:List Ev):Rp:=⟨(Bo Bk.new es).book,(Mz Lg.zero (Bo Bk.new es).ps).1,(Bo Bk.new es).codes.all (fun c=>decide (c=0)) && decide ((Mz Lg.zero (Bo Bk.new es).ps).2=((Bo Bk.new es).ps.length:Int))⟩
open Classical in
noncomputable def Bd (h:Hb):Bool:=BO h.log.disk && decide (0≤h.log.next∧h.log.next≤(h.log.disk.cells.length:Int)) && decide (1≤h.log.epoch∧h.log.epoch≤16000000) && decide (((BQ h.log.disk).length:Int)=h.log.next) &&
 (BB (Av h.log.disk)).ok && (Ak (BB (Av h.log.disk)).book && Ak h.book && decide ((BB (Av h.log.disk)).book=h.book)) && decide ((BB (Av h.log.disk)).ledger=h.ledger) &&
 decide ((h.sent ++ h.wait) <:+ Av h.log.disk)
end
theorem Kw {h:Bool} {n lo hi:Int} (hf:DB h n lo hi=true) (h0:0≤lo) (h1:hi≤1125899906842624):0≤n∧n≤1125899906842624:=by
 unfold DB at hf;split at hf
 ·have:=of_decide_eq_true hf;omega
 have:=of_decide_eq_true hf;omega
theorem Ma {k key ch too amt fee:Int} {yes:Bool} (h:Ah k key ch too amt fee yes=true):1≤k∧k≤11:=by
 exact ZU
theorem vV {k key ch too amt fee:Int} {yes:Bool} (h:Ah k key ch too amt fee yes=true):∀ x ∈ [key,ch,too,amt,fee],0≤x∧x≤1125899906842624:=by
 have hk:=Ma h;unfold Ah at h;split at h
 ·simp only [Bool.and_eq_true] at h;obtain ⟨-,⟨⟨⟨⟨⟨g0,g1⟩,g2⟩,-⟩,g3⟩,g4⟩,-⟩:=h;have b0:=Kw g0 oM oM;have b1:=Kw g1 oM oM;have b2:=Kw g2 oM oM;have b3:=Kw g3 RG oM;have b4:=Kw g4 oM RG;intro x hx;simp at hx;rcases hx with rfl | rfl | rfl | rfl | rfl<;>assumption
 simp at h
section
def Ba (b:UInt8):List Value := [.int .u8 (b.toNat:Int)]
abbrev Ar:=VS Ba 1 (fun _=>True)
abbrev AK:=AC Ba 1 5
theorem De (b:UInt8):(Ba b).length=1:=rfl
theorem Ed (b:UInt8):∀ u∈Ba b,u.oneCell'=true:=by intro u hu;simp [Ba] at hu;subst hu;rfl
theorem Dd:(Tryz.prog.info? 5).map (fun i=>(i.zero,i.size,i.bytes))=some (some (.int .u8 0),1,1):=Cr
theorem BtF.cell {w:World} {B:Nat} {a:Option Addr} {len:Nat} {xs:List UInt8} (h:FS Ba 1 (fun _=>True) w B a len xs) {k:Nat} (hk:k<len) :
 ∃ g off x,a=some ⟨g,off,none⟩∧g<B∧w.cell? ⟨g,off+k,none⟩=some (.int .u8 (x.toNat:Int))∧Hid (xs[k]? = some x)∧Hid (xs.take (k+1)=xs.take k ++ [x]):=by
 obtain ⟨g,off,r,e,hb,hc,_,hx,ht⟩:=FS.at_ h hk
 have:=hc 0 _ rfl
 rw [Nat.mul_one,Nat.add_zero] at this
 exact ⟨g,off,r,e,hb,this,hx,ht⟩
theorem YZ (a:Option Addr) (len cap:Nat) (n:Int) (w:World) (hl:len≤9223372036854775807) (h0:0≤n) (h1:n≤1048576):Calls Tryz.prog 294 #[.slice a len cap,n] w fun e w' =>
 e = .returned (.int .i64 (if n - (len:Int)<0 then -1 else n - len))∧w=w':=by
 by_cases h:n - (len:Int)<0
 ·rw [if_pos h];go_enter Tryz.func294,Tryz.ntmps294
  exact IY
 rw [if_neg h]
 go_enter Tryz.func294,Tryz.ntmps294
 go_wp2
 go_ret
 exact ⟨rfl,rfl⟩
def JD (w:World) (B:Nat) (g len cap:Nat) (xs:List UInt8) (k:Nat):Prop :=
 ∃ rest:List Value,w.ownsRow B 5 1 (.slice (some ⟨g,0,none⟩) len cap) len ((xs.take k).flatMap Ba ++ rest)∧rest.length=len - k
theorem JD.put {w:World} {B g len cap:Nat} {xs:List UInt8} {k:Nat} {x:UInt8} (h:JD w B g len cap xs k) (hx:xs.length=len) (hk:k<len) (ht:xs.take (k+1)=xs.take k ++ [x]):JD (w.setCell ⟨g,k,none⟩ (.int .u8 (x.toNat:Int))) B g len cap xs (k+1):=by
 obtain ⟨rest,ho,hr⟩:=h;have hl:((xs.take k).flatMap Ba).length=k:=by rw [DN De];simp;omega
 obtain ⟨y,r',rfl⟩:∃ y r',rest=y :: r':=by
  cases rest with
  | nil=>simp at hr;omega
  | cons y r'=>exact ⟨y,r',rfl⟩
 have s0:=(ho.stored k (.int .u8 (x.toNat:Int))).1;rw [BR ((xs.take k).flatMap Ba) r' y _ k hl.symm] at s0;refine ⟨r',?_,by simp at hr;omega⟩;rw [ht,List.flatMap_append,List.flatMap_cons,List.flatMap_nil,List.append_nil];exact s0
theorem JD.cell {w:World} {B g len cap:Nat} {xs:List UInt8} {k:Nat} (h:JD w B g len cap xs k) (hx:xs.length=len) (hk:k<len):B≤g∧(∃ y,w.cell? ⟨g,k,none⟩=some y)∧w.frozen? ⟨g,k,none⟩=false:=by
 obtain ⟨rest,ho,hr⟩:=h;refine ⟨(ho.lt g rfl).1,⟨_,(ho.cellAt k oM).trans (List.getElem?_eq_getElem (by have:=ho.1;omega))⟩,ho.frozenAt k⟩
theorem zK (v:Value) (xs:List UInt8) (w:World) (V0:Ar w w v xs) (hlen:xs.length≤1048576):Calls Tryz.prog 295 #[v] w fun e w' =>
 (∃ u,e = .returned u∧AK w' w u xs)∧Below w w w':=by
 obtain ⟨a,len,cap,rfl,hcap,hnil,hs⟩:=V0
 obtain rfl:xs.length=len:=hs.1
 obtain ⟨len,hl⟩:∃ len,len=xs.length:=⟨_,rfl⟩
 rw [← hl] at hs hlen hcap ⊢
 have Hl:=lH hl
 clear hl
 obtain ⟨i0,hi,hz0,hz1,hz2⟩:=info_parts Dd
 go_enter Tryz.func295,Tryz.ntmps295
 go_wp2_with (at_make;refine wpList_make_full w rfl _ _ _ rfl w 5 i0 (.int .u8 0) 1 Tryz.underlying161 hi hz0 hz1 .i64 .i64 _ _ len rfl rfl rfl rfl ?b2 ?b3 (Nat.le_refl _) ?_)
 case b2=>rw [hz2];omega
 case b3=>unfold maxLen;omega
 intro w1 hown hgr
 have hB1:Below w w w1:=(Below.refl _ _).grown hgr (Nat.le_refl _) sM
 have hown1:JD w1 w w len len xs 0:=⟨_,DW,J8⟩
 clear hown hgr
 go_wp2
 go_loopw [4] (fun i wr=>∃ k:Nat,k≤len∧i=k∧JD wr w w len len xs k∧Below w w wr) (fun i _=>len - (intOf i).toNat)
 case atStart=>exact ⟨0,Nat.zero_le _,rfl,hown1,hB1⟩
 case round =>
  obtain ⟨k,hk,rfl,hown,hB⟩:=hrel;by_cases hlt:k<len
  ·obtain ⟨g,off,x,rfl,hg,c0,hx,ht⟩:=BtF.cell (hs.keep hB) hlt;obtain ⟨-,⟨y,d0⟩,df⟩:=hown.cell Hl.out.symm hlt;have hbd:=ta x;clear hown1;go_wp2;go_roundw
   case rel=>exact ⟨k+1,AA,Ab,hown.put Hl.out.symm hlt ht.out,bW⟩
   case measure=>simp [intOf];omega
  obtain ⟨rest,ho,hr⟩:=hown;have e:k=len:=AA;subst e;have:rest = []:=List.eq_nil_of_length_eq_zero oM
  subst this;have Ho:=lH ho;clear ho;go_wp2;go_ret;refine ⟨⟨_,rfl,?_⟩,hB⟩;have ho:=Ho.out;rw [List.take_of_length_le LV,List.append_nil] at ho;unfold AK AC;rw [← Hl.out];exact ho
theorem A1U (v u:Value) (xs:List UInt8) (w:World) (V0:Ar w w v xs) (V1:Ar w w u xs):Calls Tryz.prog 298 #[v,u] w fun e w' =>
 e = .returned true∧Below w w w':=by
 obtain ⟨a,len,cap,rfl,hcap,hnil,hs⟩:=V0
 obtain ⟨a',len',cap',rfl,hcap',hnil',hs'⟩:=V1
 obtain rfl:len=len':=hs.1.symm.trans hs'.1
 have hl:=hs.lenB
 go_enter Tryz.func298,Tryz.ntmps298
 go_wp2
 go_loopw [5] (fun i wr=>∃ k:Nat,k≤len∧i=k∧Below w w wr) (fun i _=>len - (intOf i).toNat)
 case atStart=>exact ⟨0,Nat.zero_le _,rfl,Below.refl _ _⟩
 case round =>
  have A2v:=trivial;exact IZ
def Bm:Kd (List UInt8) UInt8:=⟨fun _ u => [u],1,id,fun _=>True,Ba,1,fun _=>True,167,5,fun _ _=>rfl,fun _=>rfl⟩
def Cc:Kd Wr UInt8:=⟨fun x u => [.int .i64 x.at_,u],2,Wr.bytes,fun x=>AE x.at_,Ba,1,fun _=>True,169,5,fun _ _=>rfl,fun _=>rfl⟩
theorem vR:(Tryz.prog.info? 167).map (fun i=>(i.zero,i.size,i.bytes))=some (some (.agg #[.slice none 0 0]),1,24):=Cr
theorem A2P:(Tryz.prog.info? 169).map (fun i=>(i.zero,i.size,i.bytes))=some (some (.agg #[I0, .slice none 0 0]),2,32):=Cr
structure DkV (w:World) (B:Nat) (v0 v1:Value) (d:Dk):Prop where
 cells:VN Bm w B v0 d.cells
 dirty:VN Cc w B v1 d.dirty
theorem DkV.keepB {w w':World} {B B':Nat} {v0 v1:Value} {d:Dk} (h:DkV w B v0 v1 d) (hb:Below B' w w') (hB:B≤B'):DkV w' B v0 v1 d:=⟨h.cells.keepB hb hB,h.dirty.keepB hb hB⟩
theorem DkV.mono {w:World} {B B':Nat} {v0 v1:Value} {d:Dk} (h:DkV w B v0 v1 d) (hB:B≤B'):DkV w B' v0 v1 d:=⟨h.cells.mono hB,h.dirty.mono hB⟩
theorem DkV.keep {w w':World} {v0 v1:Value} {d:Dk} (h:DkV w w v0 v1 d) (hb:Below w w w'):DkV w' w' v0 v1 d:=⟨h.cells.keep hb,h.dirty.keep hb⟩
theorem DkV.ex {w w':World} {B:Nat} {F:List Nat} {v0 v1:Value} {d:Dk} (h:DkV w B v0 v1 d) (hx:Ex F w w') (hF:∀ k∈F,B≤k):DkV w' B v0 v1 d:=⟨h.cells.ex hx hF,h.dirty.ex hx hF⟩
def C0 (F:List Nat) (w:World) (B:Nat) (v0 v1:Value) (d:Dk):Prop:=∃ us vs,ON Bm w B v0 d.cells us∧ON Cc w B v1 d.dirty vs∧F=A5 (v0 :: us) ++ A5 (v1 :: vs)∧F.Nodup
section
variable {F G:List Nat} {w w':World} {B B':Nat} {v0 v1:Value} {d:Dk}
theorem C0.lt (h:C0 F w B v0 v1 d):∀ k∈F,B≤k∧k<w.heap.size:=by
 obtain ⟨us,vs,h1,h2,rfl,_⟩:=h;intro k hk;rcases List.mem_append.1 hk with hk | hk
 ·exact h1.lt k hk
 exact h2.lt k hk
theorem C0.nd (h:C0 F w B v0 v1 d):F.Nodup:=by
 obtain ⟨us,vs,h1,h2,_,h3⟩:=h;exact h3
theorem C0.kept (h:C0 F w B v0 v1 d) (hx:Ex G w w') (hn:∀ k∈F,k∉G):C0 F w' B v0 v1 d:=by
 obtain ⟨us,vs,h1,h2,rfl,h3⟩:=h;exact ⟨us,vs,h1.kept hx (fun k hk=>hn k (List.mem_append_left _ hk)),h2.kept hx (fun k hk=>hn k (List.mem_append_right _ hk)),rfl,h3⟩
theorem C0.keep (h:C0 F w B v0 v1 d) (hb:Below w w w'):C0 F w' B v0 v1 d:=h.kept (Ex.of_below hb []) (fun k _=>AP)
theorem C0.le (h:C0 F w B v0 v1 d) (hB:B'≤B):C0 F w B' v0 v1 d:=by
 obtain ⟨us,vs,h1,h2,h3⟩:=h;exact ⟨us,vs,h1.le hB,h2.le hB,h3⟩
theorem JK {n:Nat} (h1:F.Nodup) (h2:G.Nodup) (l1:∀ k∈F,k<n) (l2:∀ k∈G,n≤k):(F ++ G).Nodup :=
 List.nodup_append.2 ⟨h1,h2,fun p hp q hq e=>by have:=l1 p hp;have:=l2 q hq;omega⟩
end
theorem ts {w:World} {B g n cap:Nat} {xs:List (List UInt8)} {vs:List Value} {k:Nat} {x:List UInt8} {u:Value} (h:NP Bm w B g n cap (xs.take k) vs) (hk:k<n) (hx:xs.length=n) (ht:xs.take (k+1)=xs.take k ++ [x]) (hu:AK w B u x) (hn:∀ k∈u.ownBlock.toList,k∉A5 (.slice (some ⟨g,0,none⟩) n cap :: vs)) :
 NP Bm (w.setCell ⟨g,k,none⟩ u) B g n cap (xs.take (k+1)) (vs ++ [u])∧w.grownBy (w.setCell ⟨g,k,none⟩ u) (some g):=by
 have hl:(xs.take k).length=k:=An
 have:=h.put (x:=x) oM hu trivial (fun _ _=>trivial) hn
 rw [hl,← ht] at this
 have e:w.setCells g (k*Bm.sz) (Bm.enc x u)=w.setCell ⟨g,k,none⟩ u:=by show w.setCell ⟨g,k*1,none⟩ u=_;rw [Nat.mul_one]
 rw [e] at this
 exact this
theorem tl (u:Value) (x:List UInt8) (w:World) (V0:Ar w w u x) (hlen:x.length≤1048576):Calls Tryz.prog 221 #[.agg #[u]] w fun e w'=>(∃ u2,e = .returned (.agg #[u2])∧AK w' w u2 x)∧Below w w w':=by
 obtain ⟨a,len,cap,hv,hcap,hnil,hs⟩:=id V0;subst hv;go_enter Tryz.func221,Tryz.ntmps221
 have A2w:=trivial;exact ZW
theorem tz (u u2:Value) (x:List UInt8) (w:World) (V0:Ar w w u x) (V1:Ar w w u2 x):Calls Tryz.prog 228 #[.agg #[u], .agg #[u2]] w fun e w'=>e = .returned true∧Below w w w':=by
 obtain ⟨a,len,cap,hv,-,-,-⟩:=id V0;subst hv;obtain ⟨a2,len2,cap2,hv,-,-,-⟩:=id V1;subst hv;go_enter Tryz.func228,Tryz.ntmps228
 exact ZY
theorem xe (u:Value) (x:List UInt8) (m:Int) (w:World) (V0:Ar w w u x) (h0:0≤m) (h1:m≤1048576):Calls Tryz.prog 215 #[.agg #[u],m] w fun e w'=>(∃ r:Int,e = .returned r∧(r = -1∨(0≤r∧r≤m∧x.length≤1048576)))∧Below w w w':=by
 have A2x:=trivial;exact ZZ
theorem yO (v:Value) (xs:List (List UInt8)) (w:World) (V0:VN Bm w w v xs) (hlen:xs.length≤1048576) (hbd:∀ x∈xs,(x).length≤1048576):Calls Tryz.prog 122 #[v] w fun e w' =>
 (∃ u us,e = .returned u∧ON Bm w' w u xs us)∧Below w w w':=by
 have V1:=V0
 obtain ⟨a,len,cap,rfl,hcap,hnil,hxl,hmx,hat⟩:=VN.at_ V0
 rw [hxl] at hlen
 have Hl:=lH hxl.symm
 have hbd:=lH hbd
 clear hxl V0 hat
 obtain ⟨i0,hi,hz0,hz1,hz2⟩:=info_parts vR
 go_enter Tryz.func122,Tryz.ntmps122
 go_wp2_with (at_make;refine wpList_make_full w rfl _ _ _ rfl w 167 i0 (.agg #[.slice none 0 0]) 1 Tryz.underlying44 hi hz0 hz1 .i64 .i64 _ _ len rfl rfl rfl rfl ?b2 ?b3 (Nat.le_refl _) ?_)
 case b2=>rw [hz2];omega
 case b3=>unfold maxLen;omega
 intro w1 hown hgr
 have hB1:Below w w w1:=(Below.refl _ _).grown hgr (Nat.le_refl _) sM
 have hown1:NP Bm w1 w w len len [] []:=NP.start hown
 clear hown hgr
 go_wp2
 go_loopw [4] (fun i wr=>∃ (k:Nat) (vs:List Value),k≤len∧i=k∧NP Bm wr w w len len (xs.take k) vs∧Below w w wr) (fun i _=>len - (intOf i).toNat)
 case atStart=>exact ⟨0,[],Nat.zero_le _,rfl,hown1,hB1⟩
 case round =>
  have A2y:=trivial;exact Za
theorem xw (v v':Value) (xs:List (List UInt8)) (w:World) (V0:VN Bm w w v xs) (V1:VN Bm w w v' xs):Calls Tryz.prog 130 #[v,v'] w fun e w'=>e = .returned true∧Below w w w':=by
 have A2z:=trivial;exact Zb
theorem A1l (v:Value) (xs:List (List UInt8)) (m:Int) (w:World) (V0:VN Bm w w v xs) (h0:0≤m) (h1:m≤1048576):Calls Tryz.prog 116 #[v,m] w fun e w'=>(∃ r:Int,e = .returned r∧(r = -1∨(0≤r∧r≤m∧xs.length≤1048576∧∀ x∈xs,(x).length≤1048576)))∧Below w w w':=by
 have A20:=trivial;exact Zc
theorem yC {w:World} {B g n cap:Nat} {xs:List Wr} {vs:List Value} {k:Nat} {x:Wr} {u:Value} (h:NP Cc w B g n cap (xs.take k) vs) (hk:k<n) (hx:xs.length=n) (ht:xs.take (k+1)=xs.take k ++ [x]) (hu:AK w B u x.bytes) (hi:AE x.at_) (hn:∀ k∈u.ownBlock.toList,k∉A5 (.slice (some ⟨g,0,none⟩) n cap :: vs)) :
 NP Cc ((w.setCell ⟨g,k*2,none⟩ x.at_).setCell ⟨g,k*2+1,none⟩ u) B g n cap (xs.take (k+1)) (vs ++ [u])∧w.grownBy ((w.setCell ⟨g,k*2,none⟩ x.at_).setCell ⟨g,k*2+1,none⟩ u) (some g):=by
 have hl:(xs.take k).length=k:=An
 have:=h.put (x:=x) oM hu hi (fun _ _=>trivial) hn
 rw [hl,← ht] at this
 exact this
theorem tX (n:Int) (u:Value) (x:List UInt8) (w:World) (V0:Ar w w u x) (hlen:x.length≤1048576):Calls Tryz.prog 222 #[.agg #[n,u]] w fun e w'=>(∃ u2,e = .returned (.agg #[n,u2])∧AK w' w u2 x)∧Below w w w':=by
 obtain ⟨a,len,cap,hv,hcap,hnil,hs⟩:=id V0;subst hv;go_enter Tryz.func222,Tryz.ntmps222
 exact ZW
theorem A1r (n:Int) (u u2:Value) (x:List UInt8) (w:World) (V0:Ar w w u x) (V1:Ar w w u2 x):Calls Tryz.prog 229 #[.agg #[n,u], .agg #[n,u2]] w fun e w'=>e = .returned true∧Below w w w':=by
 obtain ⟨a,len,cap,hv,-,-,-⟩:=id V0;subst hv;obtain ⟨a2,len2,cap2,hv,-,-,-⟩:=id V1;subst hv;go_enter Tryz.func229,Tryz.ntmps229
 exact ZY
theorem uu (n:Int) (u:Value) (x:List UInt8) (m:Int) (w:World) (V0:Ar w w u x) (h0:0≤m) (h1:m≤1048576):Calls Tryz.prog 216 #[.agg #[n,u],m] w fun e w'=>(∃ r:Int,e = .returned r∧(r = -1∨(0≤r∧r≤m∧x.length≤1048576)))∧Below w w w':=by
 exact ZZ
theorem yR (v:Value) (xs:List (Wr)) (w:World) (V0:VN Cc w w v xs) (hlen:xs.length≤1048576) (hbd:∀ x∈xs,(x.bytes).length≤1048576):Calls Tryz.prog 123 #[v] w fun e w' =>
 (∃ u us,e = .returned u∧ON Cc w' w u xs us)∧Below w w w':=by
 have V1:=V0
 obtain ⟨a,len,cap,rfl,hcap,hnil,hxl,hmx,hat⟩:=VN.at_ V0
 rw [hxl] at hlen
 have Hl:=lH hxl.symm
 have hbd:=lH hbd
 clear hxl V0 hat
 obtain ⟨i0,hi,hz0,hz1,hz2⟩:=info_parts A2P
 go_enter Tryz.func123,Tryz.ntmps123
 go_wp2_with (at_make;refine wpList_make_full w rfl _ _ _ rfl w 169 i0 (.agg #[I0, .slice none 0 0]) 2 Tryz.underlying45 hi hz0 hz1 .i64 .i64 _ _ len rfl rfl rfl rfl ?b2 ?b3 (Nat.le_refl _) ?_)
 case b2=>rw [hz2];omega
 case b3=>unfold maxLen;omega
 intro w1 hown hgr
 have hB1:Below w w w1:=(Below.refl _ _).grown hgr (Nat.le_refl _) sM
 have hown1:NP Cc w1 w w len len [] []:=NP.start hown
 clear hown hgr
 go_wp2
 go_loopw [4] (fun i wr=>∃ (k:Nat) (vs:List Value),k≤len∧i=k∧NP Cc wr w w len len (xs.take k) vs∧Below w w wr) (fun i _=>len - (intOf i).toNat)
 case atStart=>exact ⟨0,[],Nat.zero_le _,rfl,hown1,hB1⟩
 case round =>
  exact Za
theorem xW (v v':Value) (xs:List (Wr)) (w:World) (V0:VN Cc w w v xs) (V1:VN Cc w w v' xs):Calls Tryz.prog 131 #[v,v'] w fun e w'=>e = .returned true∧Below w w w':=by
 exact Zb
theorem A0r (v:Value) (xs:List (Wr)) (m:Int) (w:World) (V0:VN Cc w w v xs) (h0:0≤m) (h1:m≤1048576):Calls Tryz.prog 117 #[v,m] w fun e w'=>(∃ r:Int,e = .returned r∧(r = -1∨(0≤r∧r≤m∧xs.length≤1048576∧∀ x∈xs,(x.bytes).length≤1048576)))∧Below w w w':=by
 exact Zc
end
abbrev BE:=VS Ln.enc 3 Ln.ok
theorem Qb (k c:Int) (w:World):Calls Tryz.prog 135 #[.agg #[k,c]] w fun e w'=>e = .returned (Eh k c)∧Below w w w':=by
 go_enter Tryz.func135,Tryz.ntmps135
 go_wp2_with (((go_at_call 124;refine (Cy _ _ _ _).mono ?_);rintro e w1 ⟨rfl,rfl⟩))
 all_goals
  go_ret
  exact ⟨Ag RH,bW⟩
theorem Qq (k c:Int) (w:World):Calls Tryz.prog 133 #[.agg #[k,c]] w fun e w'=>e = .returned (Eh k c)∧Below w w w':=by
 go_enter Tryz.func133,Tryz.ntmps133
 exact RI
theorem Jq (k c k2 c2:Int) (w:World):Calls Tryz.prog 274 #[.agg #[k,c], .agg #[k2,c2]] w fun e w'=>e = .returned (EW k c k2 c2)∧Below w w w':=by
 go_enter Tryz.func274,Tryz.ntmps274
 exact RI
theorem JH (k c k2 c2:Int) (w:World):Calls Tryz.prog 254 #[.agg #[k,c], .agg #[k2,c2]] w fun e w'=>e = .returned (EW k c k2 c2)∧Below w w w':=by
 go_enter Tryz.func254,Tryz.ntmps254
 exact RI
theorem Ww (n:Int) (w:World):Calls Tryz.prog 299 #[n] w fun e w'=>e = .returned (CJ n)∧w=w':=by
 go_enter Tryz.func299,Tryz.ntmps299
 go_wp2_with (fail)
 all_goals
  go_ret
  exact ⟨Ag RH,rfl⟩
def JF (k c:Int):Int:=if k≤5 then k - 1 else 5+(k - 6)*99+(c - 1)
theorem YL {k c:Int} (h:Eh k c=true):0≤JF k c∧JF k c≤301:=by
 have:=of_decide_eq_true h
 unfold JF;split<;>omega
theorem vI {k c k2 c2:Int} (h:Eh k c=true) (h2:Eh k2 c2=true) (hl:EW k c k2 c2=true):JF k c<JF k2 c2:=by
 have:=of_decide_eq_true h
 have:=of_decide_eq_true h2
 have:=of_decide_eq_true hl
 unfold JF;split<;>split<;>omega
theorem Vm:∀ (n:Nat) (l:List Ln) (x:Ln),l.length=n→l.getLast? = some x→Cg l=true→(n:Int)≤JF x.kind x.ch+1
 | 0,l,x,hl,h,_=>by
  obtain rfl:l = []:=List.eq_nil_of_length_eq_zero hl;simp at h
 | n+1,l,x,hl,h,hp=>by
  rcases List.eq_nil_or_concat l with rfl | ⟨m,z,rfl⟩
  ·simp at hl
  rw [List.concat_eq_append] at hl h hp;rw [List.getLast?_concat] at h;obtain rfl:=Option.some.inj h;have hm:m.length=n:=by simpa using hl
  have hz:=MW hp z sM;unfold Cl at hz;simp only [Bool.and_eq_true] at hz;have hzb:=YL hz.1.1;rcases hm0:m.getLast? with _ | q
  ·rw [List.getLast?_eq_none_iff] at hm0;subst hm0;simp at hm;omega
  have h2:(Cg m && (Cl z && AV q z))=true:=by rw [← hp,Qa,hm0]
  simp only [Bool.and_eq_true] at h2;have ih:=Vm n m q hm hm0 h2.1;have hq:=MW h2.1 q (List.mem_of_getLast? hm0);unfold Cl at hq;simp only [Bool.and_eq_true] at hq;have:=vI hq.1.1 hz.1.1 h2.2.2
  omega
theorem Va {l:List Ln} (h:Cg l=true):l.length≤302:=by
 rcases hq:l.getLast? with _ | q
 ·simp at hq;subst hq;simp
 have h1:=Vm _ l q rfl hq h;have h2:=MW h q (List.mem_of_getLast? hq);unfold Cl at h2;simp only [Bool.and_eq_true] at h2;have:=YL h2.1.1
 omega
theorem uv {l:List Ln} (h:Cg l=true) : -(1125899906842624*302)≤Br l∧Br l≤1125899906842624*302:=by
 have h1:=Va h;have h2:=Yn (l:=l) fun x hx=>IF (MW h x hx);omega
theorem Iz {l:List Ln} {k:Nat} {x:Ln} (h:l.take (k+1)=l.take k ++ [x]) (hb:(Cl x && (match (l.take k).getLast? with | none=>true | some y=>AV y x))=false):DV l=false :=
 uE (k:=k+1) ((Wp h).trans ((congrArg (fun b=>Cg (l.take k) && b) hb).trans (Bool.and_false _)))
theorem WV {l:List Ln} {k:Nat} {x:Ln} (h:l.take (k+1)=l.take k ++ [x]) (hp:Cg (l.take k)=true) (ha:Eh x.kind x.ch=true) (hz:x.amt≠0) (hm:CJ x.amt=true) (hl:∀ y,(l.take k).getLast? = some y→AV y x=true):Cg (l.take (k+1))=true:=by
 rw [Wp h,hp];unfold Cl;rw [ha,hm,decide_eq_false hz]
 cases hq:(l.take k).getLast? with
 | none=>rfl
 | some y=>simp [hl y hq]
theorem A1a {l:List Ln} (hp:Cg l=true):DV l=decide (Br l=0):=by unfold DV;rw [hp];rfl
theorem Uk (v:Value) (xs:List Ln) (w:World) (V0:BE w w v xs):Calls Tryz.prog 232 #[v] w fun e w'=>e = .returned (DV xs)∧Below w w w':=by
 obtain ⟨a,len,cap,rfl,hcap,hnil,hs⟩:=V0;have hl:=hs.lenB;have Hln:=lH hs.1;go_enter Tryz.func232,Tryz.ntmps232
 have A21:=trivial;exact Zd
theorem XJ (v:Value) (xs:List Ln) (w:World) (V0:BE w w v xs):Calls Tryz.prog 230 #[v] w fun e w'=>e = .returned (DV xs)∧Below w w w':=by
 obtain ⟨a,len,cap,rfl,hcap,hnil,hs⟩:=V0;have hl:=hs.lenB;have Hln:=lH hs.1;go_enter Tryz.func230,Tryz.ntmps230
 exact Zd
theorem A1R (n:Int) (v:Value) (xs:List Ln) (w:World) (V0:BE w w v xs):Calls Tryz.prog 184 #[.agg #[n,v]] w fun e w'=>e = .returned (Dz ⟨n,xs⟩)∧Below w w w':=by
 have A22:=trivial;exact Na
theorem Pv (n:Int) (v:Value) (xs:List Ln) (w:World) (V0:BE w w v xs):Calls Tryz.prog 134 #[.agg #[n,v]] w fun e w'=>e = .returned (Bq ⟨n,xs⟩)∧Below w w w':=by
 have A23:=trivial;exact Na
theorem zP (n:Int) (v:Value) (xs:List Ln) (w:World) (V0:BE w w v xs):Calls Tryz.prog 163 #[.agg #[n,v]] w fun e w'=>e = .returned (Dz ⟨n,xs⟩)∧Below w w w':=by
 have A24:=trivial;exact Na
theorem MJ (n:Int) (v:Value) (xs:List Ln) (w:World) (V0:BE w w v xs):Calls Tryz.prog 132 #[.agg #[n,v]] w fun e w'=>e = .returned (Bq ⟨n,xs⟩)∧Below w w w':=by
 exact Na
theorem xh (a:Option Addr) (len cap:Nat) (n:Int) (w:World) (hl:len≤9223372036854775807) (h0:0≤n) (h1:n≤1048576):Calls Tryz.prog 42 #[.slice a len cap,n] w fun e w' =>
 e = .returned (.int .i64 (if n - (len:Int)<0 then -1 else n - len))∧w=w':=by
 go_enter Tryz.func42,Tryz.ntmps42
 go_wp2
 all_goals
  go_ret
  exact ⟨by simp_all;try omega,rfl⟩
abbrev Bs:=FS (fun (x:Int) => [Value.int .u8 x]) 1 (fun x=>0≤x∧x≤255)
structure Cur (w:World) (a:Option Addr) (len cap g:Nat):Prop where
 lt:g<w.heap.size
 c0:w.cell? ⟨g,0,none⟩=some (.slice a len cap)
 c1:∃ i:Nat,i≤len∧w.cell? ⟨g,1,none⟩=.some i
 c2:∃ h:Int,w.cell? ⟨g,2,none⟩=.some h
 fz:∀ o,w.frozen? ⟨g,o,none⟩=false
 by_:∃ xs,Bs w g a len xs
structure Drew (w:World) (a:Option Addr) (len cap g:Nat) (w':World):Prop where
 lt:g<w.heap.size
 cur:Cur w' a len cap g
 grown:w.grownBy w' (some g)
theorem Bs.at_ {w:World} {B:Nat} {a:Option Addr} {len:Nat} {xs:List Int} (h:Bs w B a len xs) {k:Nat} (hk:k<len):∃ b off x,a=some ⟨b,off,none⟩∧b<B∧w.cell? ⟨b,off+k,none⟩=some (.int .u8 x)∧0≤x∧x≤255:=by
 obtain ⟨b,off,x,e,hb,hc,hok,_⟩:=FS.at_ h hk;have:=hc 0 _ rfl
 rw [Nat.mul_one,Nat.add_zero] at this;exact ⟨b,off,x,e,hb,this,hok⟩
theorem Uw (m:Nat):(UInt8.ofNat (m % 256)).toNat=m % 256:=by rw [UInt8.toNat_ofNat'];omega
theorem zJ (n i:Nat):(n:Int) / 2 ^ (8*i) % 256=((n / 256 ^ i % 256:Nat):Int):=by
 have e:(2:Int) ^ (8*i)=((256 ^ i:Nat):Int):=by
  rw [Int.pow_mul];simp
 rw [e];simp
theorem AK.form {w:World} {B:Nat} {v:Value} {xs:List UInt8} (h:AK w B v xs):∃ a c,v = .slice a xs.length c∧xs.length≤c:=by
 rcases h.2 with ⟨h1,h2⟩ | ⟨g,cap,cur,h1,_,_,h3,_⟩
 ·exact ⟨none,0,by rw [h1,h2],AA⟩
 exact ⟨_,cap,h1,h3⟩
theorem AK.vs {w:World} {B:Nat} {v:Value} {xs:List UInt8} (h:AK w B v xs):Ar w w v xs:=AC.vs De h (fun _ _=>trivial)
theorem QA (v:Value) (xs:List UInt8) (w:World) (V:Ar w w v xs) (hl:xs.length≤1048576):Calls Tryz.prog 273 #[v] w fun e w'=>(∃ v',e = .returned v'∧AK w' w v' xs)∧Below w w w':=by
 go_enter Tryz.func273,Tryz.ntmps273
 go_wp2_with (at_builtin;refine Da Dd Tryz.underlying161 rfl dC dC De Ed rfl _ _ rfl w (.slice none 0 0) [] rfl (AC.nil _ _) v xs rfl V sM oM (Nat.le_refl _) ?_)
 intro v' w' own hb hg;go_wp2;go_ret;exact ⟨⟨v',rfl,own⟩,hb⟩
theorem I5 (B:Nat) (v:Value) (xs:List UInt8) (n size:Nat) (w:World) (own:AK w B v xs) (hB:B≤w.heap.size) (hx:xs.length≤1048576) (hs:size≤7) (hn:n<4611686018427387904) :
 Calls Tryz.prog 271 #[v,n,size] w fun e w'=>(∃ v',e = .returned v'∧AK w' B v' (xs ++ be n size))∧Below B w w':=by
 go_enter Tryz.func271,Tryz.ntmps271
 go_wp2
 go_loopw [0,7] (fun t k wr=>∃ (j:Nat) (ys:List UInt8),k = .int .i64 ((j:Int) - 1)∧ys.length+j=size∧AK wr B t (xs ++ ys)∧Hid (ys ++ be n j=be n size)∧Below B w wr) (fun _ k _=>((intOf k)+1).toNat)
 case atStart=>exact ⟨size,[],rfl,AP,by rw [List.append_nil];exact own,rfl,Below.refl _ _⟩
 case round =>
  obtain ⟨j,ys,rfl,hj,ho,hbe,hb⟩:=hrel;clear own
  cases j with
  | zero =>
   have e:((0:Nat):Int) - 1 = -1:=rfl;rw [e];obtain ⟨va,vc,rfl,hvc⟩:=AK.form ho;go_wp2;go_ret;exact Zl
  | succ i =>
   have A3H:=trivial;exact Zm
theorem A1d (N x:Nat) (hx:x<256) (hN:N<18014398509481984):bits .or .i64 ((N:Int)*256) (x:Int)=(N:Int)*256+x:=by
 have h1:(BitVec.ofInt IntKind.i64.bits ((N:Int)*256)).toNat=N*256:=by
  show (BitVec.ofInt 64 ((N:Int)*256)).toNat=N*256;rw [BitVec.toNat_ofInt];omega
 have h2:(BitVec.ofInt IntKind.i64.bits (x:Int)).toNat=x:=by
  show (BitVec.ofInt 64 (x:Int)).toNat=x;rw [BitVec.toNat_ofInt];omega
 have h3:N*256 ||| x=N*256+x:=by
  have:=Nat.shiftLeft_add_eq_or_of_lt (a:=N) (b:=x) (i:=8) oM
  rw [Nat.shiftLeft_eq] at this;exact this.symm
 show IntKind.i64.wrap (((BitVec.ofInt IntKind.i64.bits ((N:Int)*256)) ||| (BitVec.ofInt IntKind.i64.bits (x:Int))).toNat:Int)=_;rw [BitVec.toNat_or,h1,h2,h3,IntKind.wrap_i64];omega
theorem A1f (xs:List UInt8) (i size k:Nat) (x:UInt8) (h:xs[i+k]? = some x) (hk:k<size):num ((part xs i size).take (k+1))=num ((part xs i size).take k)*256+x.toNat:=by
 have hx:(part xs i size)[k]? = some x:=by
  unfold part;rw [List.getElem?_take_of_lt hk,List.getElem?_drop];exact h
 rw [List.take_add_one,hx];exact A0Q _ _
theorem A1A (xs:List UInt8) (k:Nat) (hk:k≤6):num (xs.take k)<281474976710656:=by
 have h1:=Qd (xs.take k);have h2:(xs.take k).length≤6:=by rw [List.length_take];omega
 have h3:256 ^ (xs.take k).length≤256 ^ 6:=Nat.pow_le_pow_right oM h2;omega
theorem LG (v:Value) (xs:List UInt8) (i size:Nat) (w:World) (V:Ar w w v xs) (h1:1≤size) (h7:size≤7) (hi:i+size≤xs.length) (hx:xs.length≤1048576) :
 Calls Tryz.prog 227 #[v,i,size] w fun e w'=>e = .returned (.tuple #[num (part xs i size),true])∧w=w':=by
 obtain ⟨a,n,c,rfl,hnc,hnil,F⟩:=V
 have hn:xs.length=n:=F.1
 rw [hn] at hi hx
 obtain ⟨g,off,x0,rfl,hg,-,-,-⟩:=BtF.cell F (k:=0) oM
 have HF:=lH F
 clear F hn hnil
 go_enter Tryz.func227,Tryz.ntmps227
 go_wp2
 go_loop [8,10,33] (fun acc _ k=>∃ j:Nat,j≤size∧k=j∧acc=(num ((part xs i size).take j))) (fun _ _ k=>size - (intOf k).toNat)
 case atStart=>exact ⟨0,Nat.zero_le _,rfl,rfl⟩
 case round =>
  obtain ⟨j,hj,rfl,rfl⟩:=hrel;by_cases hlt:j<size;rotate_left
  ·have A3I:=trivial;exact Zn
  have A3J:=trivial;exact Zo
theorem vU (n R:Nat) (hn:n<72057594037927936):(wrap64 ((n:Int) / (R:Int))).tmod 256 % 256=((n / R % 256:Nat):Int):=by
 obtain ⟨q,hq⟩:∃ q,q=n / R:=⟨_,rfl⟩;have h1:(n:Int) / (R:Int)=(q:Int):=by rw [hq];simp
 have h2:q≤n:=by rw [hq];exact Nat.div_le_self n R
 rw [h1,← hq];clear hq h1;have h3:wrap64 (q:Int)=q:=by unfold wrap64;omega
 rw [h3,Int.tmod_eq_emod_of_nonneg oM];omega
theorem YR (j:Nat) (h:j≤6):256 ^ j≤281474976710656:=by
 have:256 ^ j≤256 ^ 6:=Nat.pow_le_pow_right oM h
 omega
theorem Ue (size:Nat) (w:World) (h7:size≤7):Calls Tryz.prog 305 #[size] w fun e w'=>e = .returned (.int .i64 ((256 ^ size:Nat):Int))∧w=w':=by
 go_enter Tryz.func305,Tryz.ntmps305
 go_wp2;go_loop [3,4] (fun p k=>∃ j:Nat,j≤size∧k=j∧p = .int .i64 ((256 ^ j:Nat):Int)) (fun _ k=>size - (intOf k).toNat)
 case atStart=>exact ⟨0,Nat.zero_le _,rfl,rfl⟩
 case round =>
  obtain ⟨j,hj,rfl,rfl⟩:=hrel;by_cases hlt:j<size
  ·have hb:=YR j oM;have hnx:Hid (256 ^ (j+1)=256 ^ j*256):=Nat.pow_succ 256 j;obtain ⟨P,hP⟩:∃ P,P=256 ^ j:=⟨_,rfl⟩;rw [← hP] at hb hnx ⊢;clear hP;exact RJ
  have e:j=size:=AA;subst e;obtain ⟨P,hP⟩:∃ P,P=256 ^ j:=⟨_,rfl⟩;rw [← hP];exact IY
theorem Hc (v:Value) (xs:List UInt8) (n size:Nat) (w:World) (V:Ar w w v xs) (hx:xs.length≤1048576) (h1:1≤size) (hs:size≤7) (hn:n<256 ^ size) :
 Calls Tryz.prog 252 #[v,n,size] w fun e w'=>(∃ v',e = .returned (.tuple #[v',true])∧AK w' w v' (xs ++ be n size))∧Below w w w':=by
 have hp7:256 ^ size≤72057594037927936:=by
  have:256 ^ size≤256 ^ 7:=Nat.pow_le_pow_right oM hs
  omega
 have CP:=fun w0=>Ue size w0 hs
 obtain ⟨P,hP⟩:∃ P,P=256 ^ size:=⟨_,rfl⟩
 rw [← hP] at hn hp7
 simp only [← hP] at CP
 clear hP
 go_enter Tryz.func252,Tryz.ntmps252
 go_wp2_with fail
 refine (CP _).mono ?_
 rintro e w1 ⟨rfl,rfl⟩
 clear CP
 go_wp2_with (at_builtin;refine Da Dd Tryz.underlying161 rfl dC dC De Ed rfl _ _ rfl w (.slice (some ⟨w,0,none⟩) 0 0) [] rfl (World.ownsRow_made w #[] 0 (Nat.le_refl _) FD rfl) v xs rfl (V.keep (bW)) sM oM (Aj _ _) ?_)
 intro v1 w2 own hb hg
 have hb1:Below w w w2:=(Ae (Below.refl _ w) _).trans hb
 have own:AK w2 w v1 xs:=own
 obtain ⟨va,vc,rfl,hvc⟩:=AK.form own
 clear hb hg V
 go_wp2
 go_loopw [8,9] (fun t k wr=>∃ (j:Nat) (ys:List UInt8),k = .int .i64 ((j:Int) - 1)∧ys.length+j=size∧AK wr w t (xs ++ ys)∧Hid (ys ++ be n j=be n size)∧Below w w wr) (fun _ k _=>((intOf k)+1).toNat)
 case atStart=>exact ⟨size,[],rfl,AP,by rw [List.append_nil];exact own,rfl,hb1⟩
 case round =>
  obtain ⟨j,ys,rfl,hj,ho,hbe,hb⟩:=hrel;clear own
  cases j with
  | zero =>
   have e:((0:Nat):Int) - 1 = -1:=rfl;rw [e];obtain ⟨va,vc,rfl,hvc⟩:=AK.form ho;go_wp2;refine bodyPost_ret (by simp only [results,Tryz.results252];go_simp;rfl) rfl ?_;exact Zl
  | succ i =>
   exact Zm
theorem NA (v:Value) (xs:List UInt8) (i size:Nat) (w:World) (V:Ar w w v xs) (h1:1≤size) (h7:size≤7) (hi:i+size≤xs.length) (hx:xs.length≤1048576) :
 Calls Tryz.prog 220 #[v,i,size] w fun e w'=>e = .returned (.tuple #[num (part xs i size),true])∧w=w':=by
 obtain ⟨a,n,c,rfl,hnc,hnil,F⟩:=V
 have hn:xs.length=n:=F.1
 rw [hn] at hi hx
 obtain ⟨g,off,x0,rfl,hg,-,-,-⟩:=BtF.cell F (k:=0) oM
 have HF:=lH F
 clear F hn hnil
 go_enter Tryz.func220,Tryz.ntmps220
 go_wp2
 go_loop [8,9] (fun acc k=>∃ j:Nat,j≤size∧k=j∧acc=(num ((part xs i size).take j))) (fun _ k=>size - (intOf k).toNat)
 case atStart=>exact ⟨0,Nat.zero_le _,rfl,rfl⟩
 case round =>
  obtain ⟨j,hj,rfl,rfl⟩:=hrel;by_cases hlt:j<size;rotate_left
  ·exact Zn
  exact Zo
theorem A0j (v:Value) (xs:List UInt8) (i size:Nat) (w:World) (V:Ar w w v xs) (h1:1≤size) (h7:size≤7) (hi:xs.length<i+size) (hi2:i≤1000) (hx:xs.length≤1048576) :
 Calls Tryz.prog 220 #[v,i,size] w fun e w'=>e = .returned (.tuple #[I0,false])∧w=w':=by
 obtain ⟨a,n,c,rfl,hnc,hnil,F⟩:=V
 have hn:xs.length=n:=F.1
 rw [hn] at hi hx
 clear F hn hnil
 go_enter Tryz.func220,Tryz.ntmps220
 go_wp2
 refine bodyPost_ret (by simp only [results,Tryz.results220];go_simp;rfl) rfl ?_
 exact ⟨rfl,rfl⟩
section
section
variable {α β:Type} {K:Kd α β} {w w':World} {B:Nat} {v:Value} {xs:List α} {vs:List Value}
def A1w (K:Kd α β) (p:α × Value):List Value:=K.enc p.1 p.2
theorem ON.flat (h:ON K w B v xs vs):AC (A1w K) K.sz K.E w B v (xs.zip vs):=by
 have hl:(xs.zip vs).length=xs.length:=by rw [List.length_zip,h.len];omega
 unfold AC;rw [hl];exact h.row
theorem Ge {E:TypeId} {s n:Nat} {u:Value} {cs:List Value} (h:w.ownsRow B E s u n cs):∀ k∈u.ownBlock.toList,∃ cur,w.heap[k]? = some (.cells cur E (0,0)):=fun k hk=>by
 rcases h.2 with ⟨rfl,_⟩ | ⟨g,cap,cur,rfl,_,hh,_⟩
 ·simp [Value.ownBlock] at hk
 simp [Value.ownBlock] at hk;subst hk;exact ⟨cur,hh⟩
theorem ON.snoc2 {w1:World} {x:α} {u v':Value} (hE:K.E≠K.EB) (h:ON K w B v xs vs) (hu:AC K.encB K.szB K.EB w B u (K.inn x)) (hok:K.ok x) (hkB:∀ y∈K.inn x,K.okB y) (hn:∀ k∈u.ownBlock.toList,k∉A5 (v :: vs))
 (hrow:w1.ownsRow B K.E K.sz v' (xs.length+1) (EF K xs vs ++ K.enc x u)) (hg:w.grownBy w1 v.ownBlock):ON K w1 B v' (xs ++ [x]) (vs ++ [u]):=by
 have hx:=Ex.of_grown hg
 have hnd:=h.nd
 rw [EA] at hnd
 have hd:∀ k∈A5 vs,k∉v.ownBlock.toList:=fun k hk he=>(List.nodup_append.1 hnd).2.2 k he k hk rfl
 have hd2:∀ k∈u.ownBlock.toList,k∉v.ownBlock.toList∧k∉A5 vs:=fun k hk=>⟨fun he=>hn k hk (by rw [EA];exact List.mem_append_left _ he),fun he=>hn k hk (by rw [EA];exact List.mem_append_right _ he)⟩
 refine ⟨by simp [h.len],?_,?_,?_,?_,?_⟩
 ·rw [Xo K xs vs x u h.len,List.length_append];exact hrow
 ·exact Yz
 ·intro i y z h1 h2;rcases Nat.lt_or_ge i xs.length with hlt | hge
  ·rw [List.getElem?_append_left hlt] at h1;rw [List.getElem?_append_left NT] at h2;exact Ff (h.inn i y z h1 h2) hx (fun k hk he=>hd k (Iw (List.mem_of_getElem? h2) hk) he)
  rw [List.getElem?_append_right hge] at h1;rw [List.getElem?_append_right NT] at h2
  have hi:i - xs.length=0:=by
   exact Y0
  rw [hi] at h1;rw [show i - vs.length=0 by rw [h.len];exact hi] at h2;simp at h1 h2;subst h1;subst h2;exact Ff hu hx (fun k hk=>(hd2 k hk).1)
 ·exact Y3
 have hul:=Cj hu
 have hin:∀ p∈v'.ownBlock.toList,p∉A5 vs∧p∉u.ownBlock.toList:=fun p hp=>by
  obtain ⟨c1,hc1⟩:=Ge hrow p hp;refine ⟨fun hq => ?_,fun hq => ?_⟩
  ·obtain ⟨z,hz,hpz⟩:=List.mem_filterMap.1 hq;obtain ⟨i,hi,hiz⟩:=List.getElem_of_mem hz;(have h2:vs[i]? = some z:=by rw [← hiz];exact List.getElem?_eq_getElem hi);(have hi2:i<xs.length:=by rw [← h.len];exact hi);have h1:xs[i]? = some xs[i]:=List.getElem?_eq_getElem hi2;obtain ⟨c2,hc2⟩:=Ge (Ff (h.inn i _ z h1 h2) hx (fun k hk he=>hd k (Iw hz hk) he)) p (by rw [hpz];simp);rw [hc1] at hc2;simp at hc2;exact hE hc2.2
  obtain ⟨c2,hc2⟩:=Ge (Ff hu hx (fun k hk=>(hd2 k hk).1)) p hq;rw [hc1] at hc2;simp at hc2;exact hE hc2.2
 rw [EA,Xs,← List.append_assoc]
 have hu1:A5 [u]=u.ownBlock.toList:=by rw [EA];simp [A5]
 rw [hu1]
 have nd1:∀ z:Value,z.ownBlock.toList.Nodup:=fun z=>by cases z.ownBlock<;>simp
 refine List.nodup_append.2 ⟨List.nodup_append.2 ⟨nd1 _,(List.nodup_append.1 hnd).2.1,?_⟩,nd1 _,?_⟩
 ·intro p hp q hq e;subst e;exact (hin p hp).1 hq
 intro p hp q hq e
 subst e
 rcases List.mem_append.1 hp with hp | hp
 ·exact (hin p hp).2 hq
 exact (hd2 p hq).2 hp
theorem MT {S:TypeId} {z:Value} {nb:Nat} (info:(Tryz.prog.info? K.E).map (fun i=>(i.zero,i.size,i.bytes))=some (some z,K.sz,nb)) (hS:Tryz.prog.underlying S=some (.slice K.E)) (hzs:z.cells.size=K.sz) (hpos:0<K.sz) (hnb:nb≤512)
 (hone:∀ x u,u.oneCell'=true→∀ c∈K.enc x u,c.oneCell'=true) {ops:Array Oper} {rest:List Oper} {o:Oper} {a:Act} {Q:Exit→Act→World→Prop} (hgd:o.guard=none) (s x:Operand)
 (ho:o.op = .call {callee := .builtin .append,args := #[s,x],argTypes := #[S,S]}) (B:Nat) (v:Value) (xs:List α) (vs:List Value) (hs:a.eval s=v) (hown:ON K w B v xs vs)
 (g:Nat) (y:α) (u:Value) (hu1:u.oneCell'=true) (hx:a.eval x = .slice (some ⟨g,0,none⟩) 1 1) (hy:∀ j c,(K.enc y u)[j]? = some c→w.cell? ⟨g,j,none⟩=some c) (hlen:xs.length≤1099511627) (hB:B≤w.heap.size) (hE:K.E≠K.EB)
 (hu:AC K.encB K.szB K.EB w B u (K.inn y)) (hok:K.ok y) (hkB:∀ z∈K.inn y,K.okB z) (hn:∀ k∈u.ownBlock.toList,k∉A5 (v :: vs))
 (Kn:∀ v' w',ON K w' B v' (xs ++ [y]) (vs ++ [u])→Below B w w'→w.grownBy w' v.ownBlock→wpList Tryz.prog ops Q rest (a.put o.dst v') w'):wpList Tryz.prog ops Q (o :: rest) a w:=by
 obtain ⟨i0,hi,hz0,hz1,hz2⟩:=info_parts info
 refine wpList_append_own w hgd s x S ho B K.E i0 z K.sz nb hS hi hz0 hz1 hz2 hzs hpos v xs.length (EF K xs vs) hs hown.row ⟨g,0,none⟩ 1 1 (K.enc y u) hx (by rw [K.len];omega) ?_ (hone y u hu1) ?_ ?_ hB ?_
 ·intro j c hj;have:=hy j c hj
  unfold Addr.add;split
  ·rename_i h0;subst h0;exact this
  exact Fm
 ·exact J7
 ·have:(xs.length+1)*nb≤1099511628*512:=Nat.mul_le_mul oM hnb
  omega
 intro v' w' h1 h2 h3
 refine Kn v' w' (hown.snoc2 hE hu hok hkB hn h1 h2) (I9 (AC.le (ON.flat hown) (Nat.le_refl _)) h2 hB) h2
end
end
theorem LA {x y:Ln} (a b:List Ln) (h:AV x y=true):AN (x :: a) (y :: b)=x :: AN a (y :: b):=by rw [AN,if_pos h]
theorem LD {x y:Ln} (a b:List Ln) (h:AV x y=false) (h2:AV y x=true):AN (x :: a) (y :: b)=y :: AN (x :: a) b:=by rw [AN,if_neg EK,if_pos h2]
theorem Ms {x y:Ln} (a b:List Ln) (h:AV x y=false) (h2:AV y x=false) (h0:x.amt+y.amt=0):AN (x :: a) (y :: b)=AN a b:=by rw [AN,if_neg EK,if_neg Cs,if_pos h0]
theorem MZ {x y:Ln} (a b:List Ln) (h:AV x y=false) (h2:AV y x=false) (h0:¬ x.amt+y.amt=0):AN (x :: a) (y :: b)=⟨x.kind,x.ch,x.amt+y.amt⟩ :: AN a b:=by rw [AN,if_neg EK,if_neg Cs,if_neg h0]
theorem XN {x y:Ln} (a b:List Ln) (h:AV x y=true):Au (x :: a) (y :: b)=Au a (y :: b):=by rw [Au,if_pos h]
theorem VH {x y:Ln} (a b:List Ln) (h:AV x y=false) (h2:AV y x=true):Au (x :: a) (y :: b)=Au (x :: a) b:=by rw [Au,if_neg EK,if_pos h2]
theorem Yg {x y:Ln} (a b:List Ln) (h:AV x y=false) (h2:AV y x=false):Au (x :: a) (y :: b)=(CJ (x.amt+y.amt) && Au a b):=by rw [Au,if_neg EK,if_neg Cs]
theorem K8:∀ (a b:List Ln),(AN a b).length≤a.length+b.length
 | [],b=>by rw [Ir];simp
 | x :: a,[]=>by rw [Db];simp
 | x :: a,y :: b=>by
  cases h:AV x y with
  | true =>
   (have:=K8 a (y :: b));rw [LA a b h];exact Ng
  | false =>
   cases h2:AV y x with
   | true =>
    (have:=K8 (x :: a) b);rw [LD a b h h2];exact Ng
   | false =>
    (have:=K8 a b);by_cases h0:x.amt+y.amt=0
    ·rw [Ms a b h h2 h0];exact Ng
    rw [MZ a b h h2 h0];exact Ng
termination_by a b=>a.length+b.length
theorem GG (x:Ln):At [] x = [x]:=by unfold At;rw [Ir]
theorem Is {x y:Ln} (r:List Ln) (h:AV y x=true):At (y :: r) x=y :: At r x:=by unfold At;rw [LA r [] h]
theorem NL {x y:Ln} (r:List Ln) (h:AV y x=false) (h2:AV x y=true):At (y :: r) x=x :: y :: r:=by unfold At;rw [LD r [] h h2,Db]
theorem yx {x y:Ln} (r:List Ln) (h:AV y x=false) (h2:AV x y=false) (h0:y.amt+x.amt=0):At (y :: r) x=r:=by unfold At;rw [Ms r [] h h2 h0,Db]
theorem yA {x y:Ln} (r:List Ln) (h:AV y x=false) (h2:AV x y=false) (h0:¬ y.amt+x.amt=0):At (y :: r) x=⟨y.kind,y.ch,y.amt+x.amt⟩ :: r:=by unfold At;rw [MZ r [] h h2 h0,Db]
theorem YB (l:List Ln) (x:Ln):(At l x).length≤l.length+1:=by
 have:=K8 l [x]
 simpa [At] using this
theorem K7 (c d:Int) (hd:0≤d):∀ (a b:List Ln),(∀ x∈a,-c≤x.amt∧x.amt≤c)→(∀ x∈b,-d≤x.amt∧x.amt≤d)→0≤c→∀ x∈AN a b,-(c+d)≤x.amt∧x.amt≤c+d
 | [],b,_,hb,hc=>by
  rw [Ir];intro x hx;have:=hb x hx
  omega
 | x :: a,[],ha,_,hc=>by
  rw [Db];intro z hz;have:=ha z hz
  omega
 | x :: a,y :: b,ha,hb,hc=>by
  have hx:=ha x sM;have hy:=hb y sM;have ha':∀ z∈a,-c≤z.amt∧z.amt≤c:=fun z hz=>ha z Ek;have hb':∀ z∈b,-d≤z.amt∧z.amt≤d:=fun z hz=>hb z Ek
  cases h:AV x y with
  | true =>
   have ih:=K7 c d hd a (y :: b) ha' hb hc;rw [LA a b h];exact aV
  | false =>
   cases h2:AV y x with
   | true =>
    have ih:=K7 c d hd (x :: a) b ha hb' hc;rw [LD a b h h2];exact aV
   | false =>
    have ih:=K7 c d hd a b ha' hb' hc;have A3z:=trivial;exact aW
termination_by a b=>a.length+b.length
theorem Ky:∀ (a b:List Ln),(∀ x∈a,AE x.kind∧AE x.ch)→(∀ x∈b,AE x.kind∧AE x.ch)→∀ x∈AN a b,AE x.kind∧AE x.ch
 | [],b,_,hb=>by rw [Ir];exact hb
 | x :: a,[],ha,_=>by rw [Db];exact ha
 | x :: a,y :: b,ha,hb=>by
  have hx:=ha x sM;have hy:=hb y sM;have ha':∀ z∈a,AE z.kind∧AE z.ch:=fun z hz=>ha z Ek;have hb':∀ z∈b,AE z.kind∧AE z.ch:=fun z hz=>hb z Ek
  cases h:AV x y with
  | true =>
   have ih:=Ky a (y :: b) ha' hb;rw [LA a b h];intro z hz;rcases List.mem_cons.1 hz with rfl | hz
   ·exact hx
   exact ih z hz
  | false =>
   cases h2:AV y x with
   | true =>
    have ih:=Ky (x :: a) b ha hb';rw [LD a b h h2];intro z hz;rcases List.mem_cons.1 hz with rfl | hz
    ·exact hy
    exact ih z hz
   | false =>
    have ih:=Ky a b ha' hb';exact aW
termination_by a b=>a.length+b.length
theorem xI {α:Type} {l:List α} {k:Nat} {x:α} (hx:l[k]? = some x):l.drop k=x :: l.drop (k+1):=by
 exact aB
section
section
variable {α:Type} {enc:α→List Value} {sz:Nat} {ok:α→Prop} {E:TypeId} {w:World}
theorem Dc {S:TypeId} {z:Value} {nb:Nat} (info:(Tryz.prog.info? E).map (fun i=>(i.zero,i.size,i.bytes))=some (some z,sz,nb)) (hS:Tryz.prog.underlying S=some (.slice E)) (hzs:z.cells.size=sz) (hpos:0<sz) (hnb:nb≤64)
 (henc:∀ x,(enc x).length=sz) (hone:∀ x,∀ u∈enc x,u.oneCell'=true) {ops:Array Oper} {o:Oper} {a:Act} {K:Act→World→Prop} {Q:Exit→Act→World→Prop} {E0:Prop} (hgd:o.guard=none) (s x:Operand)
 (ho:o.op = .call {callee := .builtin .append,args := #[s,x],argTypes := #[S,S]}) (B:Nat) (v:Value) (xs:List α) (hs:a.eval s=v) (hown:AC enc sz E w B v xs)
 (u:Value) (ys:List α) (hx:a.eval x=u) (hy:VS enc sz ok w w u ys) (hlen:xs.length≤1099511627) (hlen2:ys.length≤1099511627) (hB:B≤w.heap.size)
 (Kn:∀ v' w',AC enc sz E w' B v' (xs ++ ys)→Below B w w'→w.grownBy w' v.ownBlock→K (a.put o.dst v') w') :
 if Region.wanted o (yielded ops a.tmps)=true then Oper.wp Tryz.prog o a w K Q else E0:=by
 have hw:Region.wanted o (yielded ops a.tmps)=true:=La
 rw [if_pos hw]
 obtain ⟨i0,hi,hz0,hz1,hz2⟩:=info_parts info
 obtain ⟨sa,sl,sc,rfl,h1,h2,hf⟩:=hy
 have hyl:=hf.1
 cases sa with
 | none =>
  exact Yu
 | some ad =>
  refine wp_append_own w s x S ho B E i0 z sz nb hS hi hz0 hz1 hz2 hzs hpos v xs.length (xs.flatMap enc) hs hown ad sl sc (ys.flatMap enc) hx (by rw [DN henc,hyl]) ?_ ?_ ?_ ?_ hB ?_
  ·exact Yv
  ·exact Yw
  ·exact J7
  ·exact Yx
  intro v' w' h1 h2 _;refine Kn v' w' ?_ (I9 hown h2 hB) h2;unfold AC;simpa [hyl] using h1
end
def Ax (w:World) (b:Nat) (T:TypeId):Prop:=∃ cur,w.heap[b]? = some (.cells cur T (0,0))
theorem Ax.new (w:World) (C:Array Value) (T:TypeId):Ax (w.alloc (.cells C T)) w T:=⟨C,heap_alloc_new w _⟩
theorem Ax.lt {w:World} {b:Nat} {T:TypeId} (h:Ax w b T):b<w.heap.size:=by
 obtain ⟨c,h⟩:=h;exact (Array.getElem?_eq_some_iff.1 h).1
theorem Ax.keep {w w':World} {b:Nat} {T:TypeId} (h:Ax w b T) (hb:Below w w w'):Ax w' b T:=by
 have hl:=h.lt;obtain ⟨c,h⟩:=h;exact ⟨c,by rw [hb.block b hl];exact h⟩
theorem Ax.ne {w:World} {b:Nat} {T E:TypeId} {s n:Nat} {v:Value} {cs:List Value} {B:Nat} (h:Ax w b T) (hr:w.ownsRow B E s v n cs) (hT:T≠E):b∉v.ownBlock.toList:=fun hm=>by
 obtain ⟨c,h⟩:=h;rcases hr.2 with ⟨rfl,_⟩ | ⟨g,cap,cur,rfl,_,hh,_⟩
 ·simp [Value.ownBlock] at hm
 simp [Value.ownBlock] at hm;subst hm;rw [h] at hh
 injection hh with hh
 injection hh with _ hh
 exact hT hh
theorem Ax.drew {w:World} {b:Nat} {T:TypeId} (h:Ax w b T):Ax w.drew b T:=h
theorem Ax.grown {w w':World} {b:Nat} {T:TypeId} {r:Option Nat} (h:Ax w b T) (hg:w.grownBy w' r) (hne:r≠some b):Ax w' b T:=by
 have hl:=h.lt;obtain ⟨c,h⟩:=h;exact ⟨c,by rw [hg.block b hl (fun e=>hne e.symm)];exact h⟩
theorem Ax.set {w:World} {b:Nat} {T:TypeId} (h:Ax w b T) (g o:Nat) (v:Value):Ax (w.setCell ⟨g,o,none⟩ v) b T:=by
 obtain ⟨c,h⟩:=h;rcases Nat.decEq b g with hne | rfl
 ·exact ⟨c,by rw [heap_setCell_other w ⟨g,o,none⟩ b v hne];exact h⟩
 exact ⟨_,heap_setCell_same w b o c T v h⟩
end
section
open Go.ChangeShapes Go.WideShapes Go.ChangeAt Go.RowKit Go.Joins Go.Deep
theorem Mp {α:Type} {l:List α} {a0:α} (hl:l.length=1) (h0:l[0]? = some a0):l = [a0]:=by
 match l,hl with
 | [x0],_=>simp_all
theorem Mr {α:Type} {l:List α} {a0 a1:α} (hl:l.length=2) (h0:l[0]? = some a0) (h1:l[1]? = some a1):l = [a0,a1]:=by
 match l,hl with
 | [x0,x1],_=>simp_all
theorem Vw {α:Type} {l:List α} {a0 a1 a2:α} (hl:l.length=3) (h0:l[0]? = some a0) (h1:l[1]? = some a1) (h2:l[2]? = some a2):l = [a0,a1,a2]:=by
 match l,hl with
 | [x0,x1,x2],_=>simp_all
theorem WG {α:Type} {l:List α} {a0 a1 a2 a3 a4:α} (hl:l.length=5) (h0:l[0]? = some a0) (h1:l[1]? = some a1) (h2:l[2]? = some a2) (h3:l[3]? = some a3) (h4:l[4]? = some a4):l = [a0,a1,a2,a3,a4]:=by
 match l,hl with
 | [x0,x1,x2,x3,x4],_=>simp_all
theorem FA {α:Type} {l:List α} {a0 a1 a2 a3 a4 a5 a6:α} (hl:l.length=7) (h0:l[0]? = some a0) (h1:l[1]? = some a1) (h2:l[2]? = some a2) (h3:l[3]? = some a3) (h4:l[4]? = some a4) (h5:l[5]? = some a5) (h6:l[6]? = some a6):l = [a0,a1,a2,a3,a4,a5,a6]:=by
 match l,hl with
 | [x0,x1,x2,x3,x4,x5,x6],_=>simp_all
section
variable {H:Type} {enc:TypeId × Value→H} {P:Program} {w:World} {base:Nat} {spare:Nat→Bool} {held:Bool}
theorem wF {t e:TypeId} {a:Option Addr} {len cap:Nat} {d:DataW H} {p:List MemPlace} (ht:P.underlying t=some (.slice e)) (he:P.underlying e=some (.int .i64)) (hc:P.cellsOf e=1)
 (h:DataW.Trod enc P w base (fun _=>true) held t (.slice a len cap) d p):∃ xs,IS w w a len xs:=by
 obtain ⟨fuel,hf⟩:=h
 rcases open_ints ht he hc hf with ⟨hcs,_⟩ | ⟨x,l,c,zs,hcs,_,hl,hm,hz,_,hcell,hwz⟩
 ·exact cN
 simp [Value.cells] at hcs
 obtain ⟨rfl,rfl,rfl⟩:=hcs
 simp at hz
 have hcell':∀ i,i<zs.length→w.cell? (x.add i)=some (.int .i64 (zs.getD i 0)):=hcell
 refine ⟨zs.take len,An,Nat.le_trans hl hm,fun n hn => ?_,fun i y hy => ?_⟩
 ·have:=hwz n (List.mem_of_mem_take hn)
  exact AJ this
 obtain ⟨hi,hy'⟩:=List.getElem?_eq_some_iff.1 hy
 have hi':i<len:=by simp at hi;omega
 obtain ⟨b,off,rfl,hc'⟩:=ints_at hcell' oM
 refine ⟨b,off,rfl,?_,?_⟩
 ·have h0:=hc' 0 oM;unfold World.cell? at h0;rcases Nat.lt_or_ge b w.heap.size with hlt | hge
  ·exact hlt
  simp [Array.getElem?_eq_none hge] at h0
 rw [hc' i oM]
 simp at hy'
 simp [List.getD_eq_getElem?_getD,List.getElem?_eq_getElem (show i<zs.length by omega),hy']
end
section
variable {H:Type} {enc:TypeId × Value→H} {P:Program} {w:World} {base:Nat} {held:Bool}
theorem WP {w:World} {b o:Nat} {v:Value} (h:w.cell? ⟨b,o,none⟩=some v):b<w.heap.size:=by
 exact Yo
theorem tZ {α:Type} {en:α→List Value} {sz:Nat} {ok:α→Prop} {a:Option Addr} (len:Nat) (hl:len≤maxLen)
 (h:∀ i,i<len→∃ (b off:Nat) (x:α),a=some ⟨b,off,none⟩∧b<w.heap.size∧ok x∧∀ j v,(en x)[j]? = some v→w.cell? ⟨b,off+i*sz+j,none⟩=some v):∃ xs,FS en sz ok w w a len xs:=by
 induction len with
 | zero=>exact ⟨[],FS.nil _ _ _⟩
 | succ n ih =>
  obtain ⟨xs,h1,h2,h3,h4⟩:=ih oM fun i hi=>h i oM;obtain ⟨b,off,x,e,hb,hx,hc⟩:=h n oM;refine ⟨xs ++ [x],BG,hl,?_,fun i y hy => ?_⟩
  ·intro y hy;simp at hy;rcases hy with hy | rfl
   ·exact h3 y hy
   exact hx
  rcases Nat.lt_or_ge i n with hlt | hge
  ·rw [List.getElem?_append_left oM] at hy;exact h4 i y hy
  have hi:i=n:=cO;subst hi;rw [List.getElem?_append_right oM,h1,Nat.sub_self] at hy;simp at hy;subst hy;exact ⟨b,off,e,hb,hc⟩
end
end
section
open Go.ChangeShapes Go.WideShapes Go.ChangeAt Go.RowKit Go.Joins Go.Deep
section
variable {H:Type} {enc:TypeId × Value→H} {P:Program} {w:World} {base:Nat} {spare:Nat→Bool} {held:Bool}
theorem zO {n:Int} (h:(Lit.int .u8 n).wf=true):0≤n∧n≤255:=by
 simp only [Lit.wf,Bool.and_eq_true,decide_eq_true_eq] at h;exact h
theorem yd {t e:TypeId} {a:Option Addr} {len cap:Nat} {d:DataW H} {p:List MemPlace} (ht:P.underlying t=some (.slice e)) (he:P.underlying e=some (.int .u8)) (hc:P.cellsOf e=1)
 (h:DataW.Trod enc P w base (fun _=>true) held t (.slice a len cap) d p):∃ xs,Bs w w a len xs:=by
 obtain ⟨fuel,hf⟩:=h
 rcases open_ints ht he hc hf with ⟨hcs,_⟩ | ⟨x,l,c,zs,hcs,_,hl,hm,hz,_,hcell,hwz⟩
 ·exact cN
 simp [Value.cells] at hcs
 obtain ⟨rfl,rfl,rfl⟩:=hcs
 simp at hz
 have hcell':∀ i,i<zs.length→w.cell? (x.add i)=some (.int .u8 (zs.getD i 0)):=hcell
 refine ⟨zs.take len,An,Nat.le_trans hl hm,fun n hn => ?_,fun i y hy => ?_⟩
 ·have:=hwz n (List.mem_of_mem_take hn)
  exact zO this
 obtain ⟨hi,hy'⟩:=List.getElem?_eq_some_iff.1 hy
 have hi':i<len:=by simp at hi;omega
 obtain ⟨b,off,rfl,hc'⟩:=ints_at hcell' oM
 refine ⟨b,off,rfl,WP (hc' 0 oM),fun j v hv => ?_⟩
 cases j with
 | succ j=>simp at hv
 | zero =>
  simp at hv;subst hv;rw [Nat.mul_one,Nat.add_zero,hc' i oM];simp at hy';simp [List.getD_eq_getElem?_getD,List.getElem?_eq_getElem (show i<zs.length by omega),hy']
end
end
end Go.Proofs.YtahefgkdbecemaaGreat
