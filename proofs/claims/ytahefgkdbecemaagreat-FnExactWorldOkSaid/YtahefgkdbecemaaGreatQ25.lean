/- The walks and the laws they lean on. -/
import Derived.Test.YtahefgkdbecemaaGreatQ23
import Derived.Test.YtahefgkdbecemaaGreatQ21
import Derived.Test.YtahefgkdbecemaaGreatQ24
namespace Go.Proofs.YtahefgkdbecemaaGreat
open Go.RowKit
set_option linter.unusedVariables false
set_option linter.unusedSimpArgs false
set_option maxRecDepth 100000
set_option maxHeartbeats 12800000
theorem Ws:∀ (l:List (Bool × Int)),(∀ p∈l,0≤p.2∧p.2≤15)→0≤A4 l∧A4 l≤15
 | [],_=>by simp [A4]
 | p :: r,h=>by
  rw [A4];split
  ·exact h p sM
  exact Ws r (fun q hq=>h q Gm)
theorem A0t (b:Bk) (e:Ev):0≤AQ b e∧AQ b e≤15:=by
 unfold AQ;refine Ws _ (fun p hp => ?_);rcases List.mem_cons.1 hp with rfl | hp
 ·exact ⟨Gn,Gn⟩
 repeat' (split at hp)
 all_goals
  simp only [List.mem_cons,List.not_mem_nil,or_false] at hp
  rcases hp with rfl | rfl | rfl | rfl | rfl | rfl | rfl<;>exact ⟨Gn,Gn⟩
theorem Xf (b:Bk) (e:Ev):0≤(Aq b e).1∧(Aq b e).1≤15:=by
 unfold Aq;split
 ·exact ⟨Gn,Gn⟩
 split
 ·exact A0t b e
 split<;>exact ⟨Gn,Gn⟩
def Dt (b:Bk) (es:List Ev) (k:Nat):Aa:=(es.take k).foldl Cw ⟨b,[],[]⟩
theorem wj {b:Bk} {es:List Ev} {k:Nat} {x:Ev} (ht:es.take (k+1)=es.take k ++ [x]):Dt b es (k+1)=Cw (Dt b es k) x:=by
 unfold Dt;rw [ht,List.foldl_append];rfl
theorem XZ {b:Bk} {es:List Ev} {k:Nat} (h:es.length≤k):Dt b es k=es.foldl Cw ⟨b,[],[]⟩:=by
 unfold Dt;rw [List.take_of_length_le h]
theorem A2R {s:Aa} (h:Bok s.book) (e:Ev):Bok (Cw s e).book:=by
 unfold Cw;split
 ·exact h
 rename_i hc;exact zI (by simpa using hc)
theorem Xk:∀ (es:List Ev) {s:Aa},Bok s.book→Bok (es.foldl Cw s).book
 | [],_,h=>h
 | e :: es,s,h=>Xk es (A2R h e)
theorem A0c {b:Bk} (h:Bok b) (es:List Ev) (k:Nat):Bok (Dt b es k).book:=Xk _ h
theorem yy {s:Aa} {e:Ev} (h:(Aq s.book e).1≠0):Cw s e={s with codes:=s.codes ++ [(Aq s.book e).1]}:=by unfold Cw;rw [if_pos h]
theorem XP {s:Aa} {e:Ev} (h:(Aq s.book e).1=0):Cw s e=⟨(Aq s.book e).2.1,if (Aq s.book e).2.2.lines = [] then s.ps else s.ps ++ [(Aq s.book e).2.2],s.codes ++ [0]⟩:=by unfold Cw;rw [if_neg Gi]
theorem xY (s:Aa) (e:Ev):(Cw s e).codes.length=s.codes.length+1∧(Cw s e).ps.length≤s.ps.length+1:=by
 unfold Cw;split
 ·simp
 refine ⟨AP,?_⟩;dsimp only;split
 ·omega
 simp
theorem Wv:∀ (es:List Ev) (s:Aa),(es.foldl Cw s).codes.length=s.codes.length+es.length∧(es.foldl Cw s).ps.length≤s.ps.length+es.length
 | [],s=>AP
 | e :: es,s=>by
  have h1:=xY s e;have h2:=Wv es (Cw s e);rw [List.foldl_cons,List.length_cons];omega
theorem Xi (b:Bk) (es:List Ev) (k:Nat):(Dt b es k).codes.length≤k∧(Dt b es k).ps.length≤k:=by
 have h:=Wv (es.take k) ⟨b,[],[]⟩;have h2:(es.take k).length≤k:=by rw [List.length_take];omega
 unfold Dt;simp only [List.length_nil] at h;omega
theorem A1e {b:Bk} {e:Ev} (hb:Bok b):0<(Aq b e).2.2.id↔(Aq b e).2.2.lines ≠ []:=by
 have hn:=hb.next.1;unfold Aq;split
 ·simp [Po.zero]
 split
 ·simp [Po.zero]
 split
 ·simp [Po.zero]
 rename_i h;exact ⟨fun _=>h,fun _=>Gn⟩
theorem RwO.ty {α:Type} {enc:α→List Value} {sz:Nat} {ok:α→Prop} {E:TypeId} {F:List Nat} {w:World} {B b:Nat} {u:Value} {xs:List α} (h:RwO enc sz ok E F w B u xs) {T:TypeId} (hT:Ax w b T) (hne:T≠E):b∉F:=by
 rw [h.F];exact hT.ne h.own hne
theorem Ai.ty {F:List Nat} {w:World} {B b:Nat} {x y z:Value} {m:Bk} (h:Ai F w B x y z m) {T:TypeId} (hT:Ax w b T) (h0:T≠182) (h1:T≠184) (h2:T≠186):b∉F:=by
 obtain ⟨F0,F1,F2,⟨a,c,d⟩,rfl,-,-⟩:=h;have:=a.ty hT h0
 have:=c.ty hT h1
 have:=d.ty hT h2
 simp only [List.mem_append];rintro ((h | h) | h)<;>contradiction
theorem Ai.apart {F:List Nat} {w:World} {B B' s n:Nat} {x y z v:Value} {cs:List Value} {m:Bk} {E:TypeId} (h:Ai F w B x y z m) (hr:w.ownsRow B' E s v n cs) (h0:E≠182) (h1:E≠184) (h2:E≠186):∀ k∈F,k∉v.ownBlock.toList:=fun k hk hv=>by
 obtain ⟨c,hc⟩:=Ge hr k hv;exact h.ty ⟨c,hc⟩ h0 h1 h2 hk
theorem Ai.grown {F:List Nat} {w w':World} {B B' s n:Nat} {x y z v:Value} {cs:List Value} {m:Bk} {E:TypeId} (h:Ai F w B x y z m) (hr:w.ownsRow B' E s v n cs) (hg:w.grownBy w' v.ownBlock) (h0:E≠182) (h1:E≠184) (h2:E≠186):Ai F w' B x y z m :=
 h.kept (Ex.of_grown hg) (h.apart hr h0 h1 h2)
theorem AC.grownE {α:Type} {enc:α→List Value} {sz:Nat} {E0:TypeId} {w w':World} {B B' s n:Nat} {u v:Value} {cs:List Value} {xs:List α} {E:TypeId} (h:AC enc sz E0 w B u xs) (hr:w.ownsRow B' E s v n cs) (hg:w.grownBy w' v.ownBlock) (hne:E≠E0):AC enc sz E0 w' B u xs :=
 h.kept (Ex.of_grown hg) (fun k hk hv=>by
  obtain ⟨c,hc⟩:=Ge hr k hv;obtain ⟨c2,hc2⟩:=Ge h k hk;rw [hc] at hc2;simp at hc2
  exact hne hc2.2)
theorem ON.grownE {α β:Type} {K:Kd α β} {w w':World} {B B' s n:Nat} {u v:Value} {cs us:List Value} {xs:List α} {E:TypeId} (h:ON K w B u xs us) (hr:w.ownsRow B' E s v n cs) (hg:w.grownBy w' v.ownBlock) (hE:E≠K.E) (hEB:E≠K.EB):ON K w' B u xs us :=
 h.kept (Ex.of_grown hg) (fun k hk hv=>Yd hE hEB hr h k hv hk)
theorem Bx.grownE {w w':World} {B' s n b:Nat} {v:Value} {cs L:List Value} {E:TypeId} (h:Bx w b L) (hr:w.ownsRow B' E s v n cs) (hg:w.grownBy w' v.ownBlock) (hb:b∉v.ownBlock.toList):Bx w' b L :=
 h.ex (Ex.of_grown hg) hb
theorem RwO.grownE {α:Type} {enc:α→List Value} {sz:Nat} {ok:α→Prop} {E0:TypeId} {F:List Nat} {w w':World} {B B' s n:Nat} {u v:Value} {cs:List Value} {xs:List α} {E:TypeId} (h:RwO enc sz ok E0 F w B u xs) (hr:w.ownsRow B' E s v n cs) (hg:w.grownBy w' v.ownBlock) (hne:E≠E0):RwO enc sz ok E0 F w' B u xs :=
 ⟨h.own.grownE hr hg hne,h.ok,h.F⟩
theorem xX {b:Bk} {e:Ev} (hb:Bok b):AE (Aq b e).2.2.id:=by
 have hn:=hb.next;unfold Aq;split
 ·unfold AE;simp [Po.zero]
 split
 ·unfold AE;simp [Po.zero]
 split
 ·unfold AE;simp [Po.zero]
 unfold AE;dsimp only;omega
theorem xF {es:List Ev} {A:Aa} (h:Bo Bk.new es=A):BB es=⟨A.book,(DQ A.ps).1,Iu A.codes && decide ((DQ A.ps).2=(A.ps.length:Int))⟩:=by
 unfold BB;rw [h,vd];rfl
theorem A0H {s:Aa} {e:Ev} (h:∀ c∈s.codes,AE c):∀ c∈(Cw s e).codes,AE c:=by
 have hb:=Xf s.book e;unfold Cw;split
 ·exact bL
 exact bL
theorem Uy:∀ (es:List Ev) {s:Aa},(∀ c∈s.codes,AE c)→∀ c∈(es.foldl Cw s).codes,AE c
 | [],_,h=>h
 | e :: es,s,h=>Uy es (A0H h)
theorem Ai.put1 {F:List Nat} {w:World} {B g o:Nat} {x y z v:Value} {m:Bk} (h:Ai F w B x y z m) (hn:g∉F):Ai F (w.setCell ⟨g,o,none⟩ v) B x y z m:=h.kept (Ex.setCell (Ex.refl [g] _) sM v) (fun k hk hm=>by simp at hm;subst hm;exact hn hk)
theorem Ai.drew1 {F:List Nat} {w:World} {B:Nat} {x y z:Value} {m:Bk} (h:Ai F w B x y z m):Ai F w.drew B x y z m:=h.keep (Below.drew (Below.refl _ _))
theorem As.drew1 {F:List Nat} {w:World} {B:Nat} {v:Value} {m:Lg} (h:As F w B v m):As F w.drew B v m:=h.keep (Below.drew (Below.refl _ _))
theorem G7 {B g o:Nat} {w w':World} {v:Value} (h:Below B w w') (hg:B≤g):Below B w (w'.setCell ⟨g,o,none⟩ v):=Below.setCell h hg v
end Go.Proofs.YtahefgkdbecemaaGreat
