/- The walks and the laws they lean on. -/
import Derived.Test.YtahefgkdbecemaaGreatQ20
import Derived.Test.YtahefgkdbecemaaGreatQ22
namespace Go.Proofs.YtahefgkdbecemaaGreat
open Go.RowKit
set_option linter.unusedVariables false
set_option linter.unusedSimpArgs false
set_option maxRecDepth 100000
set_option maxHeartbeats 12800000
section
theorem WR {α:Type} {enc:α→List Value} {sz:Nat} (henc:∀ x,(enc x).length=sz):∀ (xs:List α) (i f:Nat) (x x':α) (u:Value),xs[i]? = some x→f<sz→enc x'=(enc x).set f u→(xs.set i x').flatMap enc=(xs.flatMap enc).set (i*sz+f) u
 | [],i,f,x,x',u,hx,_,_=>IX
 | a :: l,0,f,x,x',u,hx,hf,he=>by
  simp only [List.getElem?_cons_zero,Option.some.injEq] at hx;subst hx;rw [List.set_cons_zero,List.flatMap_cons,List.flatMap_cons,Nat.zero_mul,Nat.zero_add,List.set_append_left _ _ (by rw [henc];exact hf),he]
 | a :: l,i+1,f,x,x',u,hx,hf,he=>by
  simp only [List.getElem?_cons_succ] at hx;have hle:sz≤(i+1)*sz+f:=by rw [Nat.succ_mul];omega
  rw [List.set_cons_succ,List.flatMap_cons,List.flatMap_cons,List.set_append_right _ _ (by rw [henc];exact hle),WR henc l i f x x' u hx hf he,henc]
  congr 2
  rw [Nat.succ_mul];omega
theorem AC.setAt {α:Type} {enc:α→List Value} {sz:Nat} {E:TypeId} {w:World} {B g n c:Nat} {xs:List α} (h:AC enc sz E w B (.slice (some ⟨g,0,none⟩) n c) xs) (henc:∀ x,(enc x).length=sz) {i f:Nat} {x x':α} {u:Value} (hx:xs[i]? = some x) (hf:f<sz) (he:enc x'=(enc x).set f u):AC enc sz E (w.setCell ⟨g,i*sz+f,none⟩ u) B (.slice (some ⟨g,0,none⟩) n c) (xs.set i x'):=by
 have hn:n=xs.length:=by
  rcases h.2 with ⟨h1,_⟩ | ⟨g',cap',cur,h1,_⟩
  ·simp at h1
  injection h1
 subst hn;have:=(World.ownsRow.stored h (i*sz+f) u).1
 unfold AC;rw [WR henc xs i f x x' u hx hf he,List.length_set];exact this
section
variable {F F' F2:List Nat} {x:Value} {w w' w2:World} {g B:Nat} {b:Bk} {ls:List Ln} {kd:Int}
theorem Wk.chan {gx n c:Nat} (h:Wk F (.slice (some ⟨gx,0,none⟩) n c) w g B b ls kd) {i f:Nat} {a a':Cn} {u:Value} (hi:b.chans[i]? = some a) (hf:f<7) (he:a'.enc=a.enc.set f u) (hok:a'.ok):Wk F (.slice (some ⟨gx,0,none⟩) n c) (w.setCell ⟨gx,i*7+f,none⟩ u) g B {b with chans:=b.chans.set i a'} ls kd∧Wf g F F w (w.setCell ⟨gx,i*7+f,none⟩ u):=by
 have hl:=h.lt;have A4P:=trivial;exact Nh
theorem Wk.row (h:Wk F x w g B b ls kd):∃ a n c,x = .slice a n c∧b.chans.length=n∧n≤c∧(0<n→∃ gx,a=some ⟨gx,0,none⟩∧gx∈F):=by
 have A4Q:=trivial;exact Ra
end
theorem Ji (F:List Nat) (x:Value) (g B:Nat) (b:Bk) (ls:List Ln) (kd id:Int) (w:World) (H:Wk F x w g B b ls kd) (h:AI b.chans id=true):Calls Tryz.prog 174 #[.pointer (some ⟨g,0,none⟩),id] w fun e w'=>∃ gx n c i a,x = .slice (some ⟨gx,0,none⟩) n c∧gx∈F∧b.chans[i]? = some a∧a.id=id∧AM b.chans id=a∧e = .returned (.pointer (some ⟨gx,i*7,none⟩))∧Below w w w':=by
 obtain ⟨i,a,h1,h2,h3,h4,h5⟩:=EH h;obtain ⟨ax,n,c,rfl,hn,hc,hr⟩:=H.row;obtain ⟨gx,rfl,hgF⟩:=hr oM;have A4R:=trivial;exact Rb
theorem XC (F:List Nat) (x:Value) (g B:Nat) (b:Bk) (ls:List Ln) (kd id:Int) (w:World) (H:Wk F x w g B b ls kd) (h:AI b.chans id=false):Calls Tryz.prog 174 #[.pointer (some ⟨g,0,none⟩),id] w fun e w'=>∃ u,e = .returned (.pointer (some ⟨u,0,none⟩))∧Bx w' u [I0,I0,I0,I0,I0,I0,I0]∧u∉g :: F∧w.heap.size≤u∧Wk F x w' g B b ls (AG true 6 kd)∧Wf g F F w w':=by
 have h1:=IW h;obtain ⟨ax,n,c,rfl,hn,hc,hr⟩:=H.row;exact Rb
end
section
theorem Jo {α:Type} {l:List α} {i:Nat} {x:α} (h:i<l.length):(l.set i x)[i]? = some x:=EK
section
variable {F F':List Nat} {x:Value} {w w':World} {g B:Nat} {b:Bk} {ls:List Ln} {kd:Int}
theorem Wk.chan7 {gx n c:Nat} (h:Wk F (.slice (some ⟨gx,0,none⟩) n c) w g B b ls kd) {i:Nat} {a1 a2:Cn} (hi:b.chans[i]? = some a1) (hok1:a1.ok) (hok:a2.ok):Wk F (.slice (some ⟨gx,0,none⟩) n c) (w.setCells gx (i*7) a2.enc) g B {b with chans:=b.chans.set i a2} ls kd∧Wf g F F w (w.setCells gx (i*7) a2.enc):=by
 obtain ⟨k10,k11,k12,k13,k14,k15,k16⟩:=hok1;obtain ⟨k20,k21,k22,k23,k24,k25,k26⟩:=hok;have hlt:=(List.getElem?_eq_some_iff.1 hi).1;have s0:=h.chan (i:=i) (f:=0) (a':=⟨a2.id,a1.size,a1.loc,a1.rem,a1.base,a1.ppm,a1.score⟩) (u := .int .i64 a2.id) hi dC rfl ⟨k20,k11,k12,k13,k14,k15,k16⟩;have s1:=s0.1.chan (i:=i) (f:=1) (a':=⟨a2.id,a2.size,a1.loc,a1.rem,a1.base,a1.ppm,a1.score⟩) (u := .int .i64 a2.size) (Jo KE) dC rfl ⟨k20,k21,k12,k13,k14,k15,k16⟩;have s2:=s1.1.chan (i:=i) (f:=2) (a':=⟨a2.id,a2.size,a2.loc,a1.rem,a1.base,a1.ppm,a1.score⟩) (u := .int .i64 a2.loc) (Jo KE) dC rfl ⟨k20,k21,k22,k13,k14,k15,k16⟩;have s3:=s2.1.chan (i:=i) (f:=3) (a':=⟨a2.id,a2.size,a2.loc,a2.rem,a1.base,a1.ppm,a1.score⟩) (u := .int .i64 a2.rem) (Jo KE) dC rfl ⟨k20,k21,k22,k23,k14,k15,k16⟩;have s4:=s3.1.chan (i:=i) (f:=4) (a':=⟨a2.id,a2.size,a2.loc,a2.rem,a2.base,a1.ppm,a1.score⟩) (u := .int .i64 a2.base) (Jo KE) dC rfl ⟨k20,k21,k22,k23,k24,k15,k16⟩;have s5:=s4.1.chan (i:=i) (f:=5) (a':=⟨a2.id,a2.size,a2.loc,a2.rem,a2.base,a2.ppm,a1.score⟩) (u := .int .i64 a2.ppm) (Jo KE) dC rfl ⟨k20,k21,k22,k23,k24,k25,k16⟩;have s6:=s5.1.chan (i:=i) (f:=6) (a':=⟨a2.id,a2.size,a2.loc,a2.rem,a2.base,a2.ppm,a2.score⟩) (u := .int .i64 a2.score) (Jo KE) dC rfl ⟨k20,k21,k22,k23,k24,k25,k26⟩;simp only [List.set_set] at s6;exact ⟨s6.1,(((((s0.2.trans s1.2).trans s2.2).trans s3.2).trans s4.2).trans s5.2).trans s6.2⟩
theorem Wk.other (h:Wk F x w g B b ls kd) {u:Nat} (hu:u∉g :: F) (o:Nat) (v:Value):Wk F x (w.setCell ⟨u,o,none⟩ v) g B b ls kd:=by
 obtain ⟨F0,G,y,z,l,rfl,P,K,O,hd,h1,h2⟩:=h;have ex:Ex [u] w (w.setCell ⟨u,o,none⟩ v):=Ex.setCell (Ex.refl _ _) sM _;have ne:∀ k∈g :: (F0 ++ G),k ∉ [u]:=fun k hk hm=>hu Rc;exact ⟨F0,G,y,z,l,rfl,P.ex ex (ne g sM),K.kept ex (fun k hk=>ne k Dj),O.kept ex (fun k hk=>ne k Dj),hd,h1,NZ⟩
theorem Wf.other (h:Wf g F F' w w') {u:Nat} (hu:w.heap.size≤u) (o:Nat) (v:Value):Wf g F F' w (w'.setCell ⟨u,o,none⟩ v) :=
 ⟨⟨h.1.os,h.1.tape,h.1.output,by simpa using h.1.size,fun k hk hn=>((Below.heap_setCell _ _ _ _ (by intro e;simp at e;omega)).trans (h.1.block k hk hn))⟩,h.2⟩
theorem Wk.fz {gx n c:Nat} (h:Wk F (.slice (some ⟨gx,0,none⟩) n c) w g B b ls kd) (j:Nat):w.frozen? ⟨gx,j,none⟩=false:=by
 have A4S:=trivial;exact Nh
theorem Wk.oks (h:Wk F x w g B b ls kd):∀ a∈b.chans,a.ok:=by
 obtain ⟨y,z,l,P,V,-⟩:=h.cells;exact V.chans.oks
end
theorem Eu (F:List Nat) (x:Value) (g B:Nat) (b:Bk) (ls:List Ln) (kd ch dl dr:Int) (w:World) (H:Wk F x w g B b ls kd) (h:AI b.chans ch=true) (hs:Cv b.chans) (hl:AE ((AM b.chans ch).loc+dl)) (hr:AE ((AM b.chans ch).rem+dr)):Calls Tryz.prog 248 #[.pointer (some ⟨g,0,none⟩),ch,dl,dr] w fun e w'=>e = .returned (.tuple #[])∧Wk F x w' g B {b with chans:=AU b.chans ch (AO dl dr)} ls kd∧Wf g F F w w':=by
 obtain ⟨i,a,h1,h2,h3,h4,h5⟩:=EH h;obtain ⟨ax,n,c,rfl,hn,hc,hrr⟩:=H.row;obtain ⟨gx,rfl,hgF⟩:=hrr oM;have A4T:=trivial;exact Rb
end
section
section
variable {F F':List Nat} {x:Value} {w w':World} {g B:Nat} {b:Bk} {ls:List Ln} {kd:Int}
theorem Wk.htlc (h:Wk F x w g B b ls kd) {i:Nat} {a:Ht} (hi:b.htlcs[i]? = some a):∃ gy n c,w.cell? ⟨g,4,none⟩=some (.slice (some ⟨gy,0,none⟩) n c)∧b.htlcs.length=n∧n≤c∧gy<w.heap.size∧(∀ j v,a.enc[j]? = some v→w.cell? ⟨gy,i*7+j,none⟩=some v)∧(∀ j,w.frozen? ⟨gy,j,none⟩=false)∧∀ (f:Nat) (a':Ht) (u:Value),f<7→a'.enc=a.enc.set f u→a'.ok→Wk F x (w.setCell ⟨gy,i*7+f,none⟩ u) g B {b with htlcs:=b.htlcs.set i a'} ls kd∧Wf g F F w (w.setCell ⟨gy,i*7+f,none⟩ u):=by
 have hl:=h.lt;have hw:=h;have A4U:=trivial;exact Nh
end
end
section
section
variable {α:Type} {enc:α→List Value} {sz:Nat} {ok:α→Prop} {E:TypeId} {w:World}
theorem YX {S:TypeId} {z:Value} {nb:Nat} (info:(Tryz.prog.info? E).map (fun i=>(i.zero,i.size,i.bytes))=some (some z,sz,nb)) (hS:Tryz.prog.underlying S=some (.slice E)) (hzs:z.cells.size=sz) (hpos:0<sz) (hnb:nb≤512) (ty:TypeId)
 (B:Nat) (v:Value) (n:Nat) (xs:List Value) (hown:w.ownsRow B E sz v n xs) (g:Nat) (y:List Value) (hy:∀ j u,y[j]? = some u→w.cell? ⟨g,j,none⟩=some u) (hyl:y.length=sz) (hone:∀ u∈y,u.oneCell'=true) (hlen:n≤1099511627) (hB:B≤w.heap.size) :
 ∃ v' w',(Builtin.append_ #[S,S] ty #[v, .slice (some ⟨g,0,none⟩) 1 1]).run Tryz.prog w = .ok v' w'∧w'.ownsRow B E sz v' (n+1) (xs ++ y)∧w.grownBy w' v.ownBlock∧(∀ k∈v'.ownBlock.toList,k∈v.ownBlock.toList∨w.heap.size≤k):=by
 obtain ⟨i0,hi,hz0,hz1,hz2⟩:=info_parts info
 have hnews:∀ j u,y[j]? = some u→w.cell? ((⟨g,0,none⟩:Addr).add j)=some u:=by
  exact Yq
 have h63:n+1≤maxLen:=by unfold maxLen;omega
 have hby:(n+1)*nb≤140737488355328:=by
  have:(n+1)*nb≤1099511628*512:=Nat.mul_le_mul oM hnb
  omega
 have hl1:y.length=1*sz:=by rw [hyl];omega
 rcases hown.2 with ⟨rfl,h0⟩ | ⟨gr,cap,cur,rfl,hbg,hg,hnc,hcm,hcs,htake⟩
 ·obtain ⟨v',w',hr,h2,h3,-⟩:=run_append_own (P:=Tryz.prog) w w S ty E i0 z sz nb hS hi hz0 hz1 hz2 hzs hpos (.slice none 0 0) n xs ⟨hown.1, .inl ⟨rfl,h0⟩⟩ ⟨g,0,none⟩ 1 1 y hl1 hnews hone h63 hby (Nat.le_refl _);exact ⟨v',w',hr,M3 h2 hB,h3,fun k hk => .inr (Cj h2 k hk).1⟩
 by_cases hroom:n+1≤cap
 ·obtain ⟨w',hr,h2,h3⟩:=run_append_fits (P:=Tryz.prog) w B S ty E i0 sz hS hi hz1 gr n cap xs hown ⟨g,0,none⟩ 1 1 y hl1 hnews hone hroom;exact ⟨_,w',hr,h2,h3,fun k hk => .inl hk⟩
 obtain ⟨v',w',hr,h2,h3,-⟩:=run_append_own (P:=Tryz.prog) w B S ty E i0 z sz nb hS hi hz0 hz1 hz2 hzs hpos _ n xs hown ⟨g,0,none⟩ 1 1 y hl1 hnews hone h63 hby hB
 have hr2:=run_append_grow (P:=Tryz.prog) w S ty E i0 z hS hi hz0 ⟨gr,0,none⟩ n cap xs (by rw [hz1];exact hown.1) (World.ownsRow.cells hown (g:=gr) rfl) ⟨g,0,none⟩ 1 1 y (by rw [hz1];exact hl1) hnews oM (by unfold maxLen at h63;omega) (by rw [hz2];exact growslice_fits oM hby)
 rw [hr] at hr2
 injection hr2 with e1 e2
 exact ⟨v',w',hr,h2,h3,fun k hk => .inr (by rw [e1] at hk;simp [Value.ownBlock] at hk;omega)⟩
theorem yM {S:TypeId} {z:Value} {nb:Nat} (info:(Tryz.prog.info? E).map (fun i=>(i.zero,i.size,i.bytes))=some (some z,sz,nb)) (hS:Tryz.prog.underlying S=some (.slice E)) (hzs:z.cells.size=sz) (hpos:0<sz) (hnb:nb≤512)
 {ops:Array Oper} {rest:List Oper} {o:Oper} {a:Act} {Q:Exit→Act→World→Prop} (hgd:o.guard=none) (s x:Operand)
 (ho:o.op = .call {callee := .builtin .append,args := #[s,x],argTypes := #[S,S]}) (B:Nat) (v:Value) (n:Nat) (xs:List Value) (hs:a.eval s=v) (hown:w.ownsRow B E sz v n xs)
 (g:Nat) (y:List Value) (hx:a.eval x = .slice (some ⟨g,0,none⟩) 1 1) (hy:∀ j u,y[j]? = some u→w.cell? ⟨g,j,none⟩=some u) (hyl:y.length=sz) (hone:∀ u∈y,u.oneCell'=true) (hlen:n≤1099511627) (hB:B≤w.heap.size)
 (Kn:∀ v' w',w'.ownsRow B E sz v' (n+1) (xs ++ y)→w.grownBy w' v.ownBlock→(∀ k∈v'.ownBlock.toList,k∈v.ownBlock.toList∨w.heap.size≤k)→wpList Tryz.prog ops Q rest (a.put o.dst v') w'):wpList Tryz.prog ops Q (o :: rest) a w:=by
 obtain ⟨v',w',hr,h2,h3,h4⟩:=YX info hS hzs hpos hnb o.type B v n xs hown g y hy hyl hone hlen hB
 refine wpList_plain hgd fun _ hK => ?_
 unfold Oper.wp execOp
 simp only [ho,resolve,invoke,builtin,Sem.run_bind,Sem.run_pure,Result.andThen_ok,List.map_toArray,List.map_cons,List.map_nil,hs,hx,hr]
 exact hK _ _ (Kn v' w' h2 h3 h4)
theorem wY {S:TypeId} {z:Value} {nb:Nat} (info:(Tryz.prog.info? E).map (fun i=>(i.zero,i.size,i.bytes))=some (some z,sz,nb)) (hS:Tryz.prog.underlying S=some (.slice E)) (hzs:z.cells.size=sz) (hpos:0<sz) (hnb:nb≤512)
 {ops:Array Oper} {o:Oper} {a:Act} {K:Act→World→Prop} {Q:Exit→Act→World→Prop} {E0:Prop} (hgd:o.guard=none) (s x:Operand)
 (ho:o.op = .call {callee := .builtin .append,args := #[s,x],argTypes := #[S,S]}) (B:Nat) (v:Value) (n:Nat) (xs:List Value) (hs:a.eval s=v) (hown:w.ownsRow B E sz v n xs)
 (g:Nat) (y:List Value) (hx:a.eval x = .slice (some ⟨g,0,none⟩) 1 1) (hy:∀ j u,y[j]? = some u→w.cell? ⟨g,j,none⟩=some u) (hyl:y.length=sz) (hone:∀ u∈y,u.oneCell'=true) (hlen:n≤1099511627) (hB:B≤w.heap.size)
 (Kn:∀ v' w',w'.ownsRow B E sz v' (n+1) (xs ++ y)→w.grownBy w' v.ownBlock→(∀ k∈v'.ownBlock.toList,k∈v.ownBlock.toList∨w.heap.size≤k)→K (a.put o.dst v') w'):if Region.wanted o (yielded ops a.tmps)=true then Oper.wp Tryz.prog o a w K Q else E0:=by
 obtain ⟨v',w',hr,h2,h3,h4⟩:=YX info hS hzs hpos hnb o.type B v n xs hown g y hy hyl hone hlen hB
 have hw:Region.wanted o (yielded ops a.tmps)=true:=La
 rw [if_pos hw]
 unfold Oper.wp execOp
 simp only [ho,resolve,invoke,builtin,Sem.run_bind,Sem.run_pure,Result.andThen_ok,List.map_toArray,List.map_cons,List.map_nil,hs,hx,hr]
 exact Kn v' w' h2 h3 h4
theorem Jx {S:TypeId} {z:Value} {nb:Nat} (info:(Tryz.prog.info? E).map (fun i=>(i.zero,i.size,i.bytes))=some (some z,sz,nb)) (hS:Tryz.prog.underlying S=some (.slice E)) (hzs:z.cells.size=sz) (hpos:0<sz) (hnb:nb≤64)
 (henc:∀ x,(enc x).length=sz) (hone:∀ x,∀ u∈enc x,u.oneCell'=true) {ops:Array Oper} {o:Oper} {a:Act} {K:Act→World→Prop} {Q:Exit→Act→World→Prop} {E0:Prop} (hgd:o.guard=none) (s x:Operand)
 (ho:o.op = .call {callee := .builtin .append,args := #[s,x],argTypes := #[S,S]}) (B:Nat) (v:Value) (xs:List α) (hs:a.eval s=v) (hown:AC enc sz E w B v xs)
 (g:Nat) (y:α) (hx:a.eval x = .slice (some ⟨g,0,none⟩) 1 1) (hy:∀ j u,(enc y)[j]? = some u→w.cell? ⟨g,j,none⟩=some u) (hlen:xs.length≤1099511627) (hB:B≤w.heap.size)
 (Kn:∀ v' w',AC enc sz E w' B v' (xs ++ [y])→w.grownBy w' v.ownBlock→(∀ k∈v'.ownBlock.toList,k∈v.ownBlock.toList∨w.heap.size≤k)→K (a.put o.dst v') w'):if Region.wanted o (yielded ops a.tmps)=true then Oper.wp Tryz.prog o a w K Q else E0 :=
 wY info hS hzs hpos oM hgd s x ho B v xs.length (xs.flatMap enc) hs hown g (enc y) hx hy (henc y) (hone y) hlen hB fun v' w' h2 h3 h4=>Kn v' w' (by unfold AC;simpa using h2) h3 h4
theorem I1 {S:TypeId} {z:Value} {nb:Nat} (info:(Tryz.prog.info? E).map (fun i=>(i.zero,i.size,i.bytes))=some (some z,sz,nb)) (hS:Tryz.prog.underlying S=some (.slice E)) (hzs:z.cells.size=sz) (hpos:0<sz) (hnb:nb≤64)
 (henc:∀ x,(enc x).length=sz) (hone:∀ x,∀ u∈enc x,u.oneCell'=true) {ops:Array Oper} {rest:List Oper} {o:Oper} {a:Act} {Q:Exit→Act→World→Prop} (hgd:o.guard=none) (s x:Operand)
 (ho:o.op = .call {callee := .builtin .append,args := #[s,x],argTypes := #[S,S]}) (B:Nat) (v:Value) (xs:List α) (hs:a.eval s=v) (hown:AC enc sz E w B v xs)
 (g:Nat) (y:α) (hx:a.eval x = .slice (some ⟨g,0,none⟩) 1 1) (hy:∀ j u,(enc y)[j]? = some u→w.cell? ⟨g,j,none⟩=some u) (hlen:xs.length≤1099511627) (hB:B≤w.heap.size)
 (K:∀ v' w',AC enc sz E w' B v' (xs ++ [y])→w.grownBy w' v.ownBlock→(∀ k∈v'.ownBlock.toList,k∈v.ownBlock.toList∨w.heap.size≤k)→wpList Tryz.prog ops Q rest (a.put o.dst v') w'):wpList Tryz.prog ops Q (o :: rest) a w :=
 yM info hS hzs hpos oM hgd s x ho B v xs.length (xs.flatMap enc) hs hown g (enc y) hx hy (henc y) (hone y) hlen hB fun v' w' h2 h3 h4=>K v' w' (by unfold AC;simpa using h2) h3 h4
theorem J2 {A V G1 C:List Nat} {n:Nat} (h:((A ++ G1) ++ C).Nodup) (hV:V.Nodup) (hv:∀ k∈V,k∈G1∨n≤k) (ha:∀ k∈A,k<n) (hc:∀ k∈C,k<n):((A ++ V) ++ C).Nodup:=by
 rw [List.append_assoc,List.nodup_append] at h;obtain ⟨h1,h2,h3⟩:=h;rw [List.nodup_append] at h2;obtain ⟨h4,h5,h6⟩:=h2;rw [List.append_assoc,List.nodup_append];refine ⟨h1,?_,?_⟩
 ·rw [List.nodup_append];refine ⟨hV,h5,fun p hp q hq e => ?_⟩;subst e;rcases hv p hp with h | h
  ·exact h6 p h p hq rfl
  have:=hc p hq;omega
 intro p hp q hq e;subst e;rcases List.mem_append.1 hq with hq | hq
 ·rcases hv p hq with h | h
  ·exact h3 p hp p (List.mem_append_left _ h) rfl
  have:=ha p hp;omega
 exact h3 p hp p (List.mem_append_right _ hq) rfl
end
section
variable {F F':List Nat} {x:Value} {w w':World} {g B:Nat} {b:Bk} {ls:List Ln} {kd:Int}
theorem Wk.ht (h:Wk F x w g B b ls kd):∃ a n c,w.cell? ⟨g,4,none⟩=some (.slice a n c)∧b.htlcs.length=n∧n≤c∧AC Ht.enc 7 184 w B (.slice a n c) b.htlcs∧DC w w (.slice a n c) b.htlcs∧∀ w' v' L,Ex (Value.slice a n c).ownBlock.toList w w'→AC Ht.enc 7 184 w' B v' L→(∀ k∈v'.ownBlock.toList,k∈(Value.slice a n c).ownBlock.toList∨w.heap.size≤k)→(∀ y∈L,y.ok)→∃ F',Wk F' x (w'.setCell ⟨g,4,none⟩ v') g B {b with htlcs:=L} ls kd∧Wf g F F' w (w'.setCell ⟨g,4,none⟩ v'):=by
 have A4V:=trivial;exact Ni
theorem Wk.ci (h:Wk F x w g B b ls kd):∃ a n c,w.cell? ⟨g,5,none⟩=some (.slice a n c)∧b.circles.length=n∧n≤c∧AC Ci.enc 5 186 w B (.slice a n c) b.circles∧DA w w (.slice a n c) b.circles∧∀ w' v' L,Ex (Value.slice a n c).ownBlock.toList w w'→AC Ci.enc 5 186 w' B v' L→(∀ k∈v'.ownBlock.toList,k∈(Value.slice a n c).ownBlock.toList∨w.heap.size≤k)→(∀ y∈L,y.ok)→∃ F',Wk F' x (w'.setCell ⟨g,5,none⟩ v') g B {b with circles:=L} ls kd∧Wf g F F' w (w'.setCell ⟨g,5,none⟩ v'):=by
 have A4W:=trivial;exact bF
theorem Wk.cn (h:Wk F x w g B b ls kd):∃ a n c,x = .slice a n c∧w.cell? ⟨g,3,none⟩=some (.slice a n c)∧b.chans.length=n∧n≤c∧AC Cn.enc 7 182 w B (.slice a n c) b.chans∧Bz w w (.slice a n c) b.chans∧∀ w' v' L,Ex (Value.slice a n c).ownBlock.toList w w'→AC Cn.enc 7 182 w' B v' L→(∀ k∈v'.ownBlock.toList,k∈(Value.slice a n c).ownBlock.toList∨w.heap.size≤k)→(∀ y∈L,y.ok)→∃ F',Wk F' v' (w'.setCell ⟨g,3,none⟩ v') g B {b with chans:=L} ls kd∧Wf g F F' w (w'.setCell ⟨g,3,none⟩ v'):=by
 have A4X:=trivial;exact Ni
theorem Wk.at {gx n c:Nat} (h:Wk F (.slice (some ⟨gx,0,none⟩) n c) w g B b ls kd) {i:Nat} {a:Cn} {ch:Int} (hi:b.chans[i]? = some a) (ha:a.id=ch) (hs:Cv b.chans):(∀ j v,a.enc[j]? = some v→w.cell? ⟨gx,i*7+j,none⟩=some v)∧(∀ j,w.frozen? ⟨gx,j,none⟩=false)∧∀ (f:Nat) (u:Value) (fn:Cn→Cn),f<7→(fn a).enc=a.enc.set f u→(fn a).ok→Wk F (.slice (some ⟨gx,0,none⟩) n c) (w.setCell ⟨gx,i*7+f,none⟩ u) g B {b with chans:=AU b.chans ch fn} ls kd∧Wf g F F w (w.setCell ⟨gx,i*7+f,none⟩ u):=by
 obtain ⟨y,z,l,P,V,-⟩:=h.cells;refine ⟨fun j v hv => ?_,fun j=>h.fz j,fun f u fn hf he hok => ?_⟩
 ·have A4Y:=trivial;exact bG
 have:=h.chan (i:=i) (f:=f) (a':=fn a) (u:=u) hi hf he hok
 rwa [XG hs hi ha fn] at this
end
theorem YP {l:List Cn} {ch:Int} {f:Cn→Cn} {i:Nat} {a:Cn} (hi:l[i]? = some a):(AU l ch f)[i]? = some (if a.id=ch then f a else a):=by
 unfold AU;rw [List.getElem?_map,hi];rfl
theorem LE {l:List Cn} {ch:Int} {f:Cn→Cn} {i:Nat} {a:Cn} (hi:l[i]? = some a) (h:a.id=ch):(AU l ch f)[i]? = some (f a):=by rw [YP hi,if_pos h]
theorem Fw {l:List Cn} {ch:Int} {f:Cn→Cn} {i:Nat} {a:Cn} (hi:l[i]? = some a) (h:a.id≠ch):(AU l ch f)[i]? = some a:=by rw [YP hi,if_neg h]
theorem D6 {l:List Cn} {ch:Int} {f:Cn→Cn} (hf:∀ c,(f c).id=c.id) (h:Cv l):Cv (AU l ch f):=by
 unfold Cv AU;rw [List.pairwise_map];refine List.Pairwise.imp ?_ h;intro p q hpq;rw [K9 ch f hf,K9 ch f hf];exact hpq
theorem Jw {l:List Cn} {ch x:Int} {f:Cn→Cn} (hf:∀ c,(f c).id=c.id):AI (AU l ch f) x=AI l x:=V9 l _ (K9 ch f hf) x
theorem Ju {l:List Cn} {ch x:Int} {f:Cn→Cn} (hf:∀ c,(f c).id=c.id) (h:AI l x=true):AM (AU l ch f) x=if x=ch then f (AM l x) else AM l x:=by
 unfold AU;rw [WC l _ (K9 ch f hf) x h,(Ei h).2]
theorem VS.tk {α:Type} {enc:α→List Value} {sz:Nat} {ok:α→Prop} {w:World} {B n c:Nat} {a:Option Addr} {xs:List α} (h:VS enc sz ok w B (.slice a n c) xs) {k:Nat} (hk:k≤n):VS enc sz ok w B (.slice a k c) (xs.take k):=by
 exact Z1
theorem VS.drop {α:Type} {enc:α→List Value} {sz:Nat} {ok:α→Prop} {w:World} {B g off n c:Nat} {xs:List α} (h:VS enc sz ok w B (.slice (some ⟨g,off,none⟩) n c) xs) {k:Nat} (hk:k≤n) {a':Option Addr} (ha:k<c→a'=some ⟨g,off+k*sz,none⟩):VS enc sz ok w B (.slice a' (n - k) (c - k)) (xs.drop k):=by
 obtain ⟨a1,n1,c1,e,hc,hnil,Fs⟩:=h;have A4Z:=trivial;exact DL
def Pt (F:List Nat) (x:Value) (g:Nat) (b:Bk) (w:World) (p off:Nat) (a:Cn):Prop:=(∃ n c i,x = .slice (some ⟨p,0,none⟩) n c∧off=i*7∧b.chans[i]? = some a)∨(off=0∧Bx w p a.enc∧p∉g :: F)
section
variable {F F':List Nat} {x:Value} {w w':World} {g B p off:Nat} {b:Bk} {ls:List Ln} {kd:Int} {a:Cn}
theorem Pt.keep (h:Pt F x g b w p off a) (hw:Wf g F F w w'):Pt F x g b w' p off a:=by
 rcases h with h | ⟨h1,h2,h3⟩
 ·exact Or.inl h
 exact Or.inr ⟨h1,(hw.box h2 h3).1,h3⟩
theorem Pt.cell (h:Pt F x g b w p off a) (H:Wk F x w g B b ls kd):∀ j v,a.enc[j]? = some v→w.cell? ⟨p,off+j,none⟩=some v:=by
 intro j v hv;rcases h with ⟨n,c,i,rfl,rfl,hi⟩ | ⟨rfl,h2,h3⟩
 ·obtain ⟨y,z,l,P,V,-⟩:=H.cells;exact bG
 rw [Nat.zero_add];exact h2.cell j v hv
end
theorem U7 {l:List Cn} {ch:Int} (h:AI l ch=false):AM l ch=Cn.zero:=by
 unfold AM;rw [List.find?_eq_none.2]
 ·rfl
 intro c hc;have:=U1 h c hc
 exact Fm
theorem QC (F:List Nat) (x:Value) (g B:Nat) (b:Bk) (ls:List Ln) (kd id:Int) (w:World) (H:Wk F x w g B b ls kd):Calls Tryz.prog 174 #[.pointer (some ⟨g,0,none⟩),id] w fun e w'=>∃ p off,e = .returned (.pointer (some ⟨p,off,none⟩))∧Pt F x g b w' p off (AM b.chans id)∧Wk F x w' g B b ls (AG (!AI b.chans id) 6 kd)∧Wf g F F w w'∧(AI b.chans id=true→∃ n c i,x = .slice (some ⟨p,0,none⟩) n c∧off=i*7∧b.chans[i]? = some (AM b.chans id)):=by
 cases h:AI b.chans id with
 | true =>
  refine (Ji F x g B b ls kd id w H h).mono ?_;rintro e w' ⟨gx,n,c,i,a,rfl,hgF,hi,ha,hg,rfl,hb⟩;refine ⟨gx,i*7,rfl,Or.inl ⟨n,c,i,rfl,rfl,by rw [hg];exact hi⟩,?_,Wf.of_below hb,fun _=>⟨n,c,i,rfl,rfl,by rw [hg];exact hi⟩⟩;rw [show (!true)=false from rfl,MN];exact H.keep hb
 | false =>
  refine (XC F x g B b ls kd id w H h).mono ?_;rintro e w' ⟨u,rfl,P,hu,-,HK,HW⟩;exact ⟨u,0,rfl,Or.inr ⟨rfl,by rw [U7 h];exact P,hu⟩,HK,HW,fun e=>Gj⟩
theorem EG {a:Cn} {dl dr:Int} (h:a.ok) (hl:AE (a.loc+dl)) (hr:AE (a.rem+dr)):(AO dl dr a).ok:=⟨h.1,h.2.1,hl,hr,h.2.2.2.2⟩
theorem MV {a:Cn} {s:Int→Int} (h:a.ok) (hs:AE (s a.score)):({a with score:=s a.score}:Cn).ok:=⟨h.1,h.2.1,h.2.2.1,h.2.2.2.1,h.2.2.2.2.1,h.2.2.2.2.2.1,hs⟩
theorem YC {n:Int} (h : -100≤n∧n≤100):AE (Co n):=by have:=Yj n h;unfold AE;omega
theorem YM {n:Int} (h : -100≤n∧n≤100):AE (Ch n):=by have:=Xc n h;unfold AE;omega
def Dn (F:List Nat) (g B:Nat) (b:Bk) (e:Ev) (w w':World):Prop:=∃ F' x' b' ls',Wk F' x' w' g B b' ls' (AQ b e)∧Wf g F F' w w'∧(AQ b e=0→b'=(Al b e).1∧ls'=(Al b e).2)
theorem Yh {c:Int} (hc:c≠0) (k:Int):AG true c k≠0:=by
 unfold AG;split
 ·exact hc
 rename_i h;exact fun e=>h ⟨rfl,e⟩
structure LsIn (K:List Int) (ls:List Ln):Prop where
 len:ls.length≤K.length
 small:K.length≤8
 all:∀ y∈ls,y.kind∈K∧(-2305843009213693952≤y.amt∧y.amt≤2305843009213693952)∧y.ok
theorem LsIn.nil:LsIn [] []:=⟨Nat.le_refl _,AP,fun y hy=>by cases hy⟩
theorem Vr {x:Ln}:∀ (l:List Ln),(∀ y∈l,y.kind≠x.kind)→Au l [x]=true
 | [],_=>by rw [Mm]
 | y :: l,h=>by
  cases h1:AV y x with
  | true=>rw [XN l [] h1];exact Vr l (fun z hz=>h z Ek)
  | false =>
   cases h2:AV x y with
   | true=>rw [VH l [] h1 h2,Pn]
   | false=>exact absurd (Kc BG Cs).1 (h y sM)
theorem X9 {x:Ln}:∀ (l:List Ln),(∀ y∈l,y.kind≠x.kind)→∀ z∈At l x,z∈l∨z=x
 | [],_,z,hz=>by rw [GG] at hz;exact Or.inr (by simpa using hz)
 | y :: l,h,z,hz=>by
  cases h1:AV y x with
  | true =>
   rw [Is l h1] at hz;rcases List.mem_cons.1 hz with rfl | hz
   ·exact Or.inl sM
   rcases X9 l (fun z hz=>h z Ek) z hz with h | h
   ·exact Or.inl EK
   exact Or.inr h
  | false =>
   cases h2:AV x y with
   | true =>
    rw [NL l h1 h2] at hz;rcases List.mem_cons.1 hz with rfl | hz
    ·exact Or.inr rfl
    exact Or.inl hz
   | false=>exact absurd (Kc BG Cs).1 (h y sM)
theorem LsIn.add {K:List Int} {ls:List Ln} (h:LsIn K ls) {x:Ln} (hk:x.kind∉K) (hb : -2305843009213693952≤x.amt∧x.amt≤2305843009213693952) (hok:x.ok) (h8:K.length<8):(x.amt≠0→QY ls x)∧LsIn (x.kind :: K) (Dq ls x):=by
 have hf:∀ y∈ls,y.kind≠x.kind:=fun y hy e=>hk (e ▸ (h.all y hy).1);have hm:=X9 ls hf;have hlen:=h.len;have hsm:=h.small;refine ⟨fun _=>⟨AA,fun y hy=>(h.all y hy).2.1,hb,hok,Vr ls hf,fun y hy => ?_⟩,?_⟩
 ·rcases hm y hy with hy | rfl
  ·exact (h.all y hy).2.2
  exact hok
 unfold Dq;split
 ·exact ⟨An,An,fun y hy=>⟨List.mem_cons_of_mem _ (h.all y hy).1,(h.all y hy).2⟩⟩
 refine ⟨?_,An,fun y hy => ?_⟩
 ·have:=YB ls x
  simp only [List.length_cons];omega
 rcases hm y hy with hy | rfl
 ·exact ⟨List.mem_cons_of_mem _ (h.all y hy).1,(h.all y hy).2⟩
 exact ⟨AP,hb,hok⟩
theorem MP {x y:Ln} (h:x.kind<y.kind):AV x y=true∧AV y x=false:=by
 have h1:AV x y=true:=(IE x y).2 (Or.inl h);exact ⟨h1,uk h1⟩
theorem Gb (p:Ln):Dq [] p=BL [p]:=by
 unfold Dq BL;by_cases h:p.amt=0
 ·simp [h]
 simp [h,GG]
theorem Gy (p q:Ln) (h:p.kind<q.kind):Dq (BL [p]) q=BL [p,q]:=by
 have k1:=MP h;unfold Dq BL;by_cases h1:p.amt=0
 ·by_cases h2:q.amt=0
  ·simp [h1,h2]
  simp [h1,h2,GG]
 by_cases h2:q.amt=0
 ·simp [h1,h2]
 simp [h1,h2,GG,Is _ k1.1]
theorem ws (p q:Ln) (h:p.kind<q.kind):Dq (BL [q]) p=BL [p,q]:=by
 have k1:=MP h;unfold Dq BL;by_cases h1:p.amt=0
 ·by_cases h2:q.amt=0
  ·simp [h1,h2]
  simp [h1,h2]
 by_cases h2:q.amt=0
 ·simp [h1,h2,GG]
 simp [h1,h2,NL _ k1.2 k1.1]
theorem Uv (p q r:Ln) (h:p.kind<q.kind) (h':q.kind<r.kind):Dq (BL [p,q]) r=BL [p,q,r]:=by
 have k1:=MP (x:=p) (y:=r) oM;have k2:=MP h';unfold Dq BL;by_cases h1:p.amt=0
 ·by_cases h2:q.amt=0
  ·by_cases h3:r.amt=0
   ·simp [h1,h2,h3]
   simp [h1,h2,h3,GG]
  by_cases h3:r.amt=0
  ·simp [h1,h2,h3]
  simp [h1,h2,h3,GG,Is _ k2.1]
 by_cases h2:q.amt=0
 ·by_cases h3:r.amt=0
  ·simp [h1,h2,h3]
  simp [h1,h2,h3,GG,Is _ k1.1]
 by_cases h3:r.amt=0
 ·simp [h1,h2,h3]
 simp [h1,h2,h3,GG,Is _ k1.1,Is _ k2.1]
end
section
section
variable {F:List Nat} {x:Value} {w:World} {g B:Nat} {b:Bk} {ls:List Ln} {kd:Int}
theorem Wk.htIn (h:Wk F x w g B b ls kd) {v:Value} (hv:w.cell? ⟨g,4,none⟩=some v):∀ k∈v.ownBlock.toList,k∈F:=by
 have A4b:=trivial;exact Ra
theorem Wk.ciIn (h:Wk F x w g B b ls kd) {v:Value} (hv:w.cell? ⟨g,5,none⟩=some v):∀ k∈v.ownBlock.toList,k∈F:=by
 exact Ra
end
theorem MO {b:Bk} (hb:Bok b) (ch:Int):Am (AM b.chans ch).loc∧Am (AM b.chans ch).rem∧Am (AM b.chans ch).base∧0≤(AM b.chans ch).ppm∧(AM b.chans ch).ppm≤1000000:=by
 cases h:AI b.chans ch with
 | true =>
  have:=hb.ck _ (Ei h).1
  exact ⟨this.loc,this.rem,this.base,this.ppm⟩
 | false =>
  rw [U7 h];unfold Am Cn.zero;simp
end
def Bn (w w':World) (e:Ending) (b:Bk) (ev:Ev):Prop:=∃ F G x y z l,e = .returned (.tuple #[.agg #[.int .i64 (Aq b ev).2.1.tick, .int .i64 (Aq b ev).2.1.next, .int .i64 (Aq b ev).2.1.wallet,x,y,z], .agg #[.int .i64 (Aq b ev).2.2.id,l], .int .i64 (Aq b ev).1])∧Ai F w' w x y z (Aq b ev).2.1∧Es G w' w l (Aq b ev).2.2.lines∧(F ++ G).Nodup∧Below w w w'
theorem Ai.zero (w:World) (B:Nat):Ai [] w B (.slice none 0 0) (.slice none 0 0) (.slice none 0 0) Bk.zero:=⟨[],[],[],⟨⟨AC.nil _ _,by simp [Bk.zero],rfl⟩,⟨AC.nil _ _,by simp [Bk.zero],rfl⟩,⟨AC.nil _ _,by simp [Bk.zero],rfl⟩⟩,rfl,AP,Gl,Gl,Gl⟩
theorem Es.zero (w:World) (B:Nat):Es [] w B (.slice none 0 0) []:=⟨AC.nil _ _,AP,rfl⟩
theorem Bn.no {w w':World} {e:Ending} {b:Bk} {ev:Ev} {c:Int} (h:Aq b ev=(c,Bk.zero,Po.zero)) (he:e = .returned (.tuple #[.agg #[I0,I0,I0, .slice none 0 0, .slice none 0 0, .slice none 0 0], .agg #[I0, .slice none 0 0],c])) (hb:Below w w w'):Bn w w' e b ev:=by
 unfold Bn;rw [h];exact ⟨[],[],_,_,_,_,he,Ai.zero _ _,Es.zero _ _,AP,hb⟩
theorem XH {b:Bk} {ev:Ev} (h:ev.good=false):Aq b ev=(1,Bk.zero,Po.zero):=by
 unfold Aq;rw [h,Bool.and_false,if_pos rfl]
theorem QP {b:Bk} {ev:Ev} (hb:Bok b) (h:ev.good=true) (hc:AQ b ev≠0):Aq b ev=(AQ b ev,Bk.zero,Po.zero):=by
 unfold Aq;rw [h,(Gc b).2 hb,if_neg sM,if_pos hc]
theorem A0R {b:Bk} {ev:Ev} (hb:Bok b) (h:ev.good=true) (hc:AQ b ev=0) (hl:(Al b ev).2 = []):Aq b ev=(0,(Al b ev).1,Po.zero):=by
 unfold Aq;rw [h,(Gc b).2 hb,if_neg sM,if_neg (by rw [hc];simp),if_pos hl]
theorem tr {b:Bk} {ev:Ev} (hb:Bok b) (h:ev.good=true) (hc:AQ b ev=0) (hl:(Al b ev).2 ≠ []):Aq b ev=(0,{(Al b ev).1 with next:=b.next+1},⟨b.next,(Al b ev).2⟩):=by
 unfold Aq;rw [h,(Gc b).2 hb,if_neg sM,if_neg (by rw [hc];simp),if_neg hl]
theorem wU (b:Bk) (ev:Ev):(Al b ev).1.next=b.next:=by
 unfold Al;simp only [apply_ite Prod.fst,apply_ite Bk.next];simp
theorem A0E {l:List Cn} {ch:Int} {f h:Cn→Cn} (hf:∀ c,(f c).id=c.id):AU (AU l ch f) ch h=AU l ch (fun c=>h (f c)):=by
 unfold AU;rw [List.map_map]
 congr 1
 funext c
 simp only [Function.comp];by_cases hc:c.id=ch
 ·rw [if_pos hc,if_pos (by rw [hf];exact hc),if_pos hc]
 rw [if_neg hc,if_neg hc,if_neg hc]
theorem Bn.yes {F:List Nat} {x y z l:Value} {w w':World} {g B:Nat} {b b':Bk} {ls:List Ln} {kd:Int} {e:Ending} {ev:Ev} {id:Int} (H:Wk F x w' g B b' ls kd) (hB:w.heap.size≤B) (h:Aq b ev=(0,b',⟨id,ls⟩)) (hy:w'.cell? ⟨g,4,none⟩=some y) (hz:w'.cell? ⟨g,5,none⟩=some z) (hl:w'.cell? ⟨g,6,none⟩=some l) (he:e = .returned (.tuple #[.agg #[b'.tick,b'.next,b'.wallet,x,y,z], .agg #[id,l],I0])) (hb:Below w w w'):Bn w w' e b ev:=by
 have A4c:=trivial;exact bH
theorem Bn.nil {F:List Nat} {x y z:Value} {w w':World} {g B:Nat} {b b':Bk} {ls:List Ln} {kd:Int} {e:Ending} {ev:Ev} (H:Wk F x w' g B b' ls kd) (hB:w.heap.size≤B) (h:Aq b ev=(0,b',Po.zero)) (hy:w'.cell? ⟨g,4,none⟩=some y) (hz:w'.cell? ⟨g,5,none⟩=some z) (he:e = .returned (.tuple #[.agg #[b'.tick,b'.next,b'.wallet,x,y,z], .agg #[I0, .slice none 0 0],I0])) (hb:Below w w w'):Bn w w' e b ev:=by
 exact bH
section
theorem Bx.whole {w:World} {b:Nat} {L vs:List Value} (h:Bx w b L) (hl:vs.length=L.length):Bx (w.setCells b 0 vs) b vs:=by
 have:=h.set 0 vs oM
 have e:EY L 0 vs=vs:=by
  unfold EY;rw [List.drop_eq_nil_of_le oM];simp
 rwa [e] at this
section
variable {F F':List Nat} {x:Value} {w w':World} {g B:Nat} {b:Bk} {ls:List Ln} {kd:Int}
theorem Wk.htF (h:Wk F x w g B b ls kd):∃ a n c,w.cell? ⟨g,4,none⟩=some (.slice a n c)∧b.htlcs.length=n∧n≤c∧AC Ht.enc 7 184 w B (.slice a n c) b.htlcs∧DC w w (.slice a n c) b.htlcs∧∀ w' v' L,Ex (Value.slice a n c).ownBlock.toList w w'→AC Ht.enc 7 184 w' B v' L→(∀ k∈v'.ownBlock.toList,k∈(Value.slice a n c).ownBlock.toList∨w.heap.size≤k)→(∀ y∈L,y.ok)→∃ F',Wk F' x (w'.setCell ⟨g,4,none⟩ v') g B {b with htlcs:=L} ls kd∧(∀ k∈F',k∈F∨k∈v'.ownBlock.toList)∧Wf g F F' w (w'.setCell ⟨g,4,none⟩ v'):=by
 exact Ni
theorem Wk.ciF (h:Wk F x w g B b ls kd):∃ a n c,w.cell? ⟨g,5,none⟩=some (.slice a n c)∧b.circles.length=n∧n≤c∧AC Ci.enc 5 186 w B (.slice a n c) b.circles∧DA w w (.slice a n c) b.circles∧∀ w' v' L,Ex (Value.slice a n c).ownBlock.toList w w'→AC Ci.enc 5 186 w' B v' L→(∀ k∈v'.ownBlock.toList,k∈(Value.slice a n c).ownBlock.toList∨w.heap.size≤k)→(∀ y∈L,y.ok)→∃ F',Wk F' x (w'.setCell ⟨g,5,none⟩ v') g B {b with circles:=L} ls kd∧(∀ k∈F',k∈F∨k∈v'.ownBlock.toList)∧Wf g F F' w (w'.setCell ⟨g,5,none⟩ v'):=by
 exact bF
end
theorem Kl (F:List Nat) (x:Value) (g B:Nat) (b:Bk) (ls:List Ln) (k c:Int) (w:World) (H:Wk F x w g B b ls k):Calls Tryz.prog 149 #[.pointer (some ⟨g,0,none⟩),false,c] w fun e w'=>e = .returned (.bool (k != 0))∧w=w':=by
 obtain ⟨y,z,l,P,-,-⟩:=H.cells;have p7:=P.cell 7 _ rfl;clear P;exact Rd
end
theorem wi (F:List Nat) (x:Value) (g B:Nat) (b:Bk) (ls:List Ln) (kd:Int) (w:World) (H:Wk F x w g B b ls kd) (ht:0≤b.tick∧b.tick<1125899906842624) (ha:∀ h∈b.htlcs,0≤h.age∧h.age≤1125899906842624) (hs:∀ c∈b.chans,AE (DR c.score)):Calls Tryz.prog 177 #[.pointer (some ⟨g,0,none⟩)] w fun e w'=>e = .returned (.tuple #[])∧Wk F x w' g B {b with tick:=b.tick+1,htlcs:=b.htlcs.map Bw,chans:=if (b.tick+1) % 5=0 then b.chans.map Ef else b.chans} ls kd∧Wf g F F w w':=by
 have A4g:=trivial;exact bO
theorem xU (g:Nat) (c:Int) (w:World) (p7:w.cell? ⟨g,7,none⟩=.some I0) (f7:w.frozen? ⟨g,7,none⟩=false):Calls Tryz.prog 260 #[.pointer (some ⟨g,0,none⟩),true,c] w fun e w'=>e = .returned (.tuple #[])∧w.setCell ⟨g,7,none⟩ c=w':=by
 exact ba
theorem zd (g:Nat) (c:Int) (w:World):Calls Tryz.prog 260 #[.pointer (some ⟨g,0,none⟩),false,c] w fun e w'=>e = .returned (.tuple #[])∧w=w':=by
 exact ba
theorem Du (g:Nat) (c:Int) (w:World) (p7:w.cell? ⟨g,7,none⟩=.some I0) (f7:w.frozen? ⟨g,7,none⟩=false) (hc:c≠0):Calls Tryz.prog 149 #[.pointer (some ⟨g,0,none⟩),true,c] w fun e w'=>e = .returned true∧w.setCell ⟨g,7,none⟩ c=w':=by
 have e1:(c != 0)=true:=JM;have hc':=lH hc;clear hc;exact Rd
theorem Dr (g:Nat) (c:Int) (w:World) (p7:w.cell? ⟨g,7,none⟩=.some I0):Calls Tryz.prog 149 #[.pointer (some ⟨g,0,none⟩),false,c] w fun e w'=>e = .returned false∧w=w':=by
 exact Rd
theorem xB (F:List Nat) (x:Value) (g B:Nat) (b:Bk) (ls:List Ln) (w:World) (H:Wk F x w g B b ls 0) (ht:0≤b.tick∧b.tick<1125899906842624) (ha:∀ h∈b.htlcs,0≤h.age∧h.age≤1125899906842624) (hs:∀ c∈b.chans,AE (DR c.score)):Calls Tryz.prog 156 #[.pointer (some ⟨g,0,none⟩)] w fun e w'=>e = .returned (.tuple #[])∧Wk F x w' g B {b with tick:=b.tick+1,htlcs:=b.htlcs.map Bw,chans:=if (b.tick+1) % 5=0 then b.chans.map Ef else b.chans} ls 0∧Wf g F F w w':=by
 exact bO
theorem WT (F:List Nat) (x:Value) (g B:Nat) (b:Bk) (ky:Int) (gd:Bool) (w:World) (H:Wk F x w g B b [] 0) (hb:Bok b) (hky:1≤ky) (hh:Ay b ky=false):Calls Tryz.prog 158 #[.pointer (some ⟨g,0,none⟩),ky,gd] w fun e w'=>e = .returned (.tuple #[])∧Wk F x w' g B b [] 15∧Wf g F F w w':=by
 obtain ⟨y,z,l,P,V,-⟩:=H.cells;obtain ⟨ax,n,cx,rfl,-,-⟩:=VS.form V.chans;have A40:=trivial;exact cF
theorem yT (F:List Nat) (x:Value) (g B:Nat) (b:Bk) (ky:Int) (w:World) (H:Wk F x w g B b [] 0) (hb:Bok b) (hky:1≤ky) (hh:Ay b ky=true):Calls Tryz.prog 158 #[.pointer (some ⟨g,0,none⟩),ky,true] w fun e w'=>e = .returned (.tuple #[])∧∃ F',Wk F' x w' g B {b with circles:=b.circles.filter (fun h => !decide (h.key=ky)),chans:=AU (AU b.chans (AW b ky).frm (AO 0 ((AW b ky).amt+(AW b ky).fee))) (AW b ky).tw (AO (AW b ky).amt 0)} (BL [⟨4,0,(AW b ky).fee⟩,⟨6,(AW b ky).tw,(AW b ky).amt⟩,⟨8,(AW b ky).frm,-((AW b ky).amt+(AW b ky).fee)⟩]) 0∧Wf g F F' w w':=by
 have A41:=trivial;exact cG
theorem A11 (F:List Nat) (x:Value) (g B:Nat) (b:Bk) (ky:Int) (w:World) (H:Wk F x w g B b [] 0) (hb:Bok b) (hky:1≤ky) (hh:Ay b ky=true):Calls Tryz.prog 158 #[.pointer (some ⟨g,0,none⟩),ky,false] w fun e w'=>e = .returned (.tuple #[])∧∃ F',Wk F' x w' g B {b with circles:=b.circles.filter (fun h => !decide (h.key=ky)),chans:=AU (AU b.chans (AW b ky).frm (AO ((AW b ky).amt+(AW b ky).fee) 0)) (AW b ky).tw (AO 0 (AW b ky).amt)} (BL [⟨6,(AW b ky).frm,(AW b ky).amt+(AW b ky).fee⟩,⟨8,(AW b ky).frm,-((AW b ky).amt+(AW b ky).fee)⟩]) 0∧Wf g F F' w w':=by
 exact cG
end Go.Proofs.YtahefgkdbecemaaGreat
