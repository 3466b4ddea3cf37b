/- The walks and the laws they lean on. -/
import Derived.Test.YtahefgkdbecemaaGreatQw3
namespace Go.Proofs.YtahefgkdbecemaaGreat
open Go.RowKit
set_option linter.unusedVariables false
set_option linter.unusedSimpArgs false
set_option maxRecDepth 100000
set_option maxHeartbeats 12800000
structure Grew (w:World) where
 tw:World
 below:Below w w tw
instance Grew.inh (w:World):Nonempty (Grew w):=⟨⟨w,Below.refl _ _⟩⟩
theorem Grew.cell {w:World} (g:Grew w) {b o:Nat} {v:Value} (h:w.cell? ⟨b,o,none⟩=some v):g.tw.cell? ⟨b,o,none⟩=some v:=by
 have hlt:b<w.heap.size:=by
  exact Yo
 rw [g.below.cell (p:=⟨b,o,none⟩) hlt];exact h
theorem BN {w w':World} (hb:Below w w w') {b o:Nat} {v:Value} (h:w.cell? ⟨b,o,none⟩=some v):w'.cell? ⟨b,o,none⟩=some v:=Grew.cell ⟨w',hb⟩ h
theorem ET {P:Program} {id:Nat} {Q:Exit→Act→World→Prop} {a:Act} {w:World} {l:List Oper} (hm:P.follows .mixedOrders=true) (hB:Region.lexB .any l.toArray=true)
 (h:wpQuiet P l.toArray (fun w'=>∃ g:Grew w,w'=g.tw) (fun a'=>∀ w',(∃ g:Grew w,w'=g.tw)→Q .normal a' w') l a):(Code.region id l.toArray true).wp P Q a w :=
 wp_region_quiet (C:=fun w'=>∃ g:Grew w,w'=g.tw) hm hB ⟨⟨w.drew,(Below.refl _ _).drew⟩,rfl⟩ Gi
theorem Calls.grew_of {P:Program} {f:FuncId} {args:Array Value} {w:World} {g:Grew w} {v:Value}
 (h:Calls P f args g.tw fun e w'=>e = .returned v∧Below g.tw.heap.size g.tw w'):Calls P f args g.tw fun e w''=>e = .returned v∧∃ g':Grew w,w''=g'.tw :=
 h.mono fun _ w' ⟨he,hb⟩=>⟨he,⟨w',g.below.trans (hb.mono g.below.size)⟩,rfl⟩
theorem Calls.grew_of_same {P:Program} {f:FuncId} {args:Array Value} {w:World} {g:Grew w} {v:Value}
 (h:Calls P f args g.tw fun e w'=>e = .returned v∧g.tw=w'):Calls P f args g.tw fun e w''=>e = .returned v∧∃ g':Grew w,w''=g'.tw :=
 h.mono fun _ w' ⟨he,hb⟩=>⟨he,g,hb.symm⟩
theorem LC:(Tryz.prog.info? 3).map (fun i=>(i.zero,i.size,i.bytes))=some (.some I0,1,8):=Cr
def Jf (w:World) (B:Nat) (v:Value) (xs:List Int):Prop:=w.ownsRow B 3 1 v xs.length (xs.map (Value.int .i64))
def OI (w:World) (B:Nat) (a:Option Addr) (len cap:Nat) (xs:List Int):Prop :=
 Jf w B (.slice a len cap) xs∧xs.length=len∧(∀ n∈xs,-9223372036854775808≤n∧n≤9223372036854775807)
def En (xs:List Int) (k:Nat):List Int:=xs.take k ++ List.replicate (xs.length - k) 0
theorem wZ (xs:List Int):En xs 0=List.replicate xs.length 0:=by simp [En]
theorem wl (xs:List Int) (k:Nat) (h:xs.length≤k):En xs k=xs:=by simp [En,List.take_of_length_le h,Nat.sub_eq_zero_of_le h]
theorem A1o (xs:List Int) (k:Nat) (h:k≤xs.length):(En xs k).length=xs.length:=by simp [En];omega
theorem yY (xs:List Int) (k:Nat) (x:Int) (h:xs[k]? = some x):(En xs k).set k x=En xs (k+1):=by
 have hl:k<xs.length:=(List.getElem?_eq_some_iff.1 h).1;have hx:=(List.getElem?_eq_some_iff.1 h).2;unfold En;rw [List.set_append_right k x An,List.take_succ_eq_append_getElem hl,hx];have e:k - (xs.take k).length=0:=An;rw [e,show xs.length - k=(xs.length - (k+1))+1 by omega,List.replicate_succ];simp
theorem vv (a:Option Addr) (len cap:Nat) (xs:List Int) (w:World) (hs:IS w w a len xs) (hlen:len≤1048576):Calls Tryz.prog 51 #[.slice a len cap] w fun e w' =>
 (∃ a c,e = .returned (.slice a len c)∧OI w' w a len c xs)∧Below w w w':=by
 obtain ⟨i0,hi,hz0,hz1,hz2⟩:=info_parts LC
 go_enter Tryz.func51,Tryz.ntmps51
 go_wp2_with (at_make;refine wpList_make_full w rfl _ _ _ rfl w 3 i0 I0 1 Tryz.underlying39 hi hz0 hz1 .i64 .i64 _ _ len rfl rfl rfl rfl ?b2 ?b3 (Nat.le_refl _) ?_)
 case b2=>rw [hz2];omega
 case b3=>unfold maxLen;omega
 intro w1 hown hgr
 have hB1:Below w w w1:=(Below.refl _ _).grown hgr (Nat.le_refl _) sM
 have hxl:xs.length=len:=hs.1
 have hown1:w1.ownsRow w 3 1 (.slice (some ⟨w,0,none⟩) len len) len ((En xs 0).map (Value.int .i64)):=by
  rw [toList_madeCells_one] at hown;rw [wZ,hxl];simpa using hown
 clear hown hgr
 have Hxl:=lH hxl;clear hxl
 go_wp2
 go_loopw [4] (fun i wr=>∃ k:Nat,k≤len∧i=k∧wr.ownsRow w 3 1 (.slice (some ⟨w,0,none⟩) len len) len ((En xs k).map (Value.int .i64))∧Below w w wr) (fun i _=>len - (intOf i).toNat)
 case atStart=>exact ⟨0,Nat.zero_le _,rfl,hown1,hB1⟩
 case round =>
  obtain ⟨k,hk,rfl,hown,hB⟩:=hrel;by_cases hlt:k<len;rotate_left
  ·go_wp2;go_ret;refine ⟨⟨_,_,rfl,?_,Hxl.out,hs.2.2.1⟩,hB⟩;unfold Jf;rw [wl _ _ (by have:=Hxl.out;omega)] at hown;rw [Hxl.out];exact hown
  obtain ⟨b,off,x,rfl,hb,hc,hbd,hx,_⟩:=(hs.keep hB).at_ hlt;have hcell:=hown.cellAt k oM;obtain ⟨y,hy⟩:∃ y,((En xs k).map (Value.int .i64))[k]? = some y:=⟨_,List.getElem?_eq_getElem (by simp [A1o _ _ (show k≤xs.length by have:=Hxl.out;omega)];have:=Hxl.out;omega)⟩;rw [hy] at hcell;have hfz:=hown.frozenAt k;clear hy;go_wp2;go_roundw
  case rel =>
   refine ⟨k+1,AA,Ab,?_,hB.setCell (Nat.le_refl _) _⟩;(have:=hown.stored k x);rw [← List.map_set,yY _ _ _ hx.out] at this;exact this.1
  case measure=>simp [intOf];omega
theorem vG {xs ys:List Int} {k:Nat} {x y:Int} (hx:xs[k]? = some x) (hy:ys[k]? = some y) (h:x≠y):xs≠ys:=fun e=>h (by rw [e,hy] at hx;exact (Option.some.inj hx).symm)
theorem vu {xs ys:List Int} {k:Nat} {x y:Int} (h:xs.take k=ys.take k) (hx:xs.take (k+1)=xs.take k ++ [x]) (hy:ys.take (k+1)=ys.take k ++ [y]) (e:x=y):xs.take (k+1)=ys.take (k+1):=by
 rw [hx,hy,h,e]
theorem uK (a:Option Addr) (len cap:Nat) (a':Option Addr) (len' cap':Nat) (xs ys:List Int) (w:World) (hs:IS w w a len xs) (hs':IS w w a' len' ys):Calls Tryz.prog 60 #[.slice a len cap, .slice a' len' cap'] w fun e w' =>
 e = .returned (decide (xs=ys))∧Below w w w':=by
 have hl1:=hs.len
 have hl2:=hs'.len
 by_cases hne:len=len';rotate_left
 ·have hne':((len:Int) != (len':Int))=true:=An;go_enter Tryz.func60,Tryz.ntmps60
  go_wp2;go_ret;exact ⟨Ag (by symm;simp;rintro rfl;exact hne (hs.1.symm.trans hs'.1)),Below.refl _ _⟩
 subst hne
 go_enter Tryz.func60,Tryz.ntmps60
 go_wp2
 go_loopw [5] (fun i wr=>∃ k:Nat,k≤len∧i=k∧Hid (xs.take k=ys.take k)∧Below w w wr) (fun i _=>len - (intOf i).toNat)
 case atStart=>exact ⟨0,Nat.zero_le _,rfl,rfl,Below.refl _ _⟩
 case round =>
  obtain ⟨k,hk,rfl,ht,hB⟩:=hrel;by_cases hlt:k<len;rotate_left
  ·go_wp2;go_ret;rw [hs.all oM,hs'.all oM] at ht;exact ⟨Ag (by simp [ht.out]),hB⟩
  obtain ⟨b,off,x,rfl,hb,hc,hbd,hx,hxs⟩:=(hs.keep hB).at_ hlt;obtain ⟨b',off',y,rfl,hb',hc',hbd',hy,hys⟩:=(hs'.keep hB).at_ hlt;by_cases hxy:x=y
  ·subst hxy;go_wp2;(go_quiet (fail));go_wp2;go_roundw
   case rel=>exact ⟨k+1,AA,Ab,vu ht.out hxs.out hys.out rfl,C8 hB⟩
   case measure=>simp [intOf];omega
  have hxy':(x != y)=true:=by simpa using hxy
  go_wp2;go_quiet (fail)
  go_wp2;go_ret;exact ⟨Ag (by simp [vG hx.out hy.out hxy]),C8 hB⟩
theorem U8 (w:World) (v:Value) (t:TypeId):(w.alloc (.cells #[v] t)).cell? ⟨w,0,none⟩=some v:=J6
theorem Aj (w:World) (o:Obj):w.heap.size≤(w.alloc o).heap.size:=AP
theorem I9 {w w':World} {B:Nat} {v:Value} {n:Nat} {xs:List Value} {e:TypeId} {size:Nat} (h:w.ownsRow B e size v n xs) (hg:w.grownBy w' v.ownBlock) (hB:B≤w.heap.size):Below B w w' :=
 (Below.refl B w).grown hg hB fun k hk=>(h.lt k hk).1
theorem yL {w w1 w2:World} {g:Nat} (h:w.grownBy w1 (some g)) (h2:w1.grownBy w2 (some g)):w.grownBy w2 (some g) :=
 ⟨h2.os.trans h.os,h2.tape.trans h.tape,h2.output.trans h.output,Nat.le_trans h.size h2.size,fun k hk hne=>(h2.block k (Nat.lt_of_lt_of_le hk h.size) hne).trans (h.block k hk hne)⟩
theorem JB {w w':World} (hb:Below w w w') {b o:Nat} (h:b<w.heap.size):w'.frozen? ⟨b,o,none⟩=w.frozen? ⟨b,o,none⟩:=hb.frozen (p:=⟨b,o,none⟩) h
theorem Vo {w:World} {g o:Nat} {v u:Value} (h:w.cell? ⟨g,o,none⟩=some u):(w.setCell ⟨g,o,none⟩ v).cell? ⟨g,o,none⟩=some v:=World.cell?_setCell_same _ _ _ h
section
def AE (n:Int):Prop := -9223372036854775808≤n∧n≤9223372036854775807
section
variable {α:Type} {enc:α→List Value} {sz:Nat} {ok:α→Prop} {E:TypeId} {w w':World} {B B':Nat} {a:Option Addr} {len cap:Nat} {xs:List α}
def OF (enc:α→List Value) (sz:Nat) (ok:α→Prop) (E:TypeId) (w:World) (B:Nat) (a:Option Addr) (len cap:Nat) (xs:List α):Prop :=
 w.ownsRow B E sz (.slice a len cap) len (xs.flatMap enc)∧xs.length=len∧∀ x∈xs,ok x
theorem Km (henc:∀ x,(enc x).length=sz):∀ (xs:List α) (i:Nat) (x:α) (j:Nat) (v:Value),xs[i]? = some x→(enc x)[j]? = some v→(xs.flatMap enc)[i*sz+j]? = some v
 | [],i,x,j,v,h,_=>by simp at h
 | y :: ys,0,x,j,v,h,hv=>by
  simp at h;subst h;have hj:j<(enc y).length:=(List.getElem?_eq_some_iff.1 hv).1;simp only [List.flatMap_cons,Nat.zero_mul,Nat.zero_add];rw [List.getElem?_append_left hj];exact hv
 | y :: ys,i+1,x,j,v,h,hv=>by
  simp at h;have:=Km henc ys i x j v h hv
  simp only [List.flatMap_cons];rw [List.getElem?_append_right (by rw [henc,Nat.add_mul];omega),henc,show (i+1)*sz+j - sz=i*sz+j by rw [Nat.add_mul];omega];exact this
theorem DN (henc:∀ x,(enc x).length=sz) (xs:List α):(xs.flatMap enc).length=xs.length*sz:=by
 induction xs with
 | nil=>simp
 | cons x xs ih=>simp only [List.flatMap_cons,List.length_append,henc,ih,List.length_cons,Nat.add_mul];omega
theorem OF.lenB (h:OF enc sz ok E w B a len cap xs):len≤maxLen:=by
 obtain ⟨⟨_,h2⟩,_⟩:=h;rcases h2 with ⟨_,h0⟩ | ⟨_,_,_,_,_,_,h3,h4,_⟩
 ·subst h0;simp [maxLen]
 exact Nat.le_trans h3 h4
theorem OF.fs (henc:∀ x,(enc x).length=sz) (h:OF enc sz ok E w B a len cap xs):FS enc sz ok w w a len xs:=by
 have hl:=h.lenB;obtain ⟨hown,h2,h3⟩:=h;refine ⟨h2,hl,h3,fun i x hx => ?_⟩;have hi:i<len:=by have:=(List.getElem?_eq_some_iff.1 hx).1;omega
 rcases hown.2 with ⟨_,h0⟩ | ⟨g,c,cur,hv,hg,hh,hnc,hcm,hsz,ht⟩
 ·omega
 injection hv with e1 e2 e3
 subst e1;subst e3;refine ⟨g,0,rfl,?_,fun j v hv => ?_⟩
 ·exact Yp
 have hget:=Km henc xs i x j v hx hv
 have hj:i*sz+j<len*sz:=by
  have:=(List.getElem?_eq_some_iff.1 hget).1
  rwa [DN henc,h2] at this
 have:=hown.cellAt (i*sz+j) hj
 rw [hget] at this;simpa using this
theorem OF.le (h:OF enc sz ok E w B a len cap xs) (hB:B'≤B):OF enc sz ok E w B' a len cap xs:=by
 obtain ⟨⟨h1,h2⟩,h3⟩:=h;refine ⟨⟨h1,?_⟩,h3⟩;rcases h2 with h2 | ⟨g,cap,cur,hv,hg,hr⟩
 ·exact .inl h2
 exact .inr ⟨g,cap,cur,hv,Nat.le_trans hB hg,hr⟩
end
theorem BR (p r:List Value) (y v:Value) (k:Nat) (hk:k=p.length):(p ++ y :: r).set k v=(p ++ [v]) ++ r:=by
 subst hk;rw [List.set_append_right _ _ (Nat.le_refl _)];simp
theorem Kz (w:World) {B:Nat} {a:Option Addr} {len cap:Nat} {E:TypeId} {sz:Nat} {xs:List Value} (h:w.ownsRow B E sz (.slice a len cap) len xs) (hl:0<len):∃ g,a=some ⟨g,0,none⟩∧B≤g:=by
 rcases h.2 with ⟨_,h0⟩ | ⟨g,_,_,hv,hg,_⟩
 ·omega
 injection hv with e;exact ⟨g,e,hg⟩
def AC {α:Type} (enc:α→List Value) (sz:Nat) (E:TypeId) (w:World) (B:Nat) (v:Value) (xs:List α):Prop:=w.ownsRow B E sz v xs.length (xs.flatMap enc)
section
variable {α:Type} {enc:α→List Value} {sz:Nat} {ok:α→Prop} {E:TypeId} {w w':World} {B:Nat} {v:Value} {xs:List α}
theorem AC.alloc (h:AC enc sz E w B v xs) (o:Obj):AC enc sz E (w.alloc o) B v xs:=World.ownsRow.alloc h o
theorem AC.nil (w:World) (B:Nat):AC enc sz E w B (.slice none 0 0) ([]:List α):=World.ownsRow_nil w B _ _
theorem AC.of (h:AC enc sz E w B v xs) (hm:∀ x∈xs,ok x):∃ a c,v = .slice a xs.length c∧OF enc sz ok E w B a xs.length c xs:=by
 have h2:=h.2;rcases h2 with ⟨hv,_⟩ | ⟨g,c,cur,hv,_⟩
 ·subst hv;exact ⟨none,0,by rename_i h0;rw [h0],by rename_i h0;exact ⟨by unfold AC at h;rw [h0] at h ⊢;exact h,rfl,hm⟩⟩
 subst hv;exact ⟨_,_,rfl,h,rfl,hm⟩
theorem OF.own {a:Option Addr} {len cap:Nat} (h:OF enc sz ok E w B a len cap xs):AC enc sz E w B (.slice a len cap) xs:=by
 obtain ⟨h1,h2,h3⟩:=h;subst h2;exact h1
theorem AC.keep (h:AC enc sz E w B v xs) (hb:Below w w w'):AC enc sz E w' B v xs :=
 World.ownsRow.kept (row:=none) h ⟨hb.os,hb.tape,hb.output,hb.size,fun k hk _=>hb.block k hk⟩ (by cases v.ownBlock<;>simp)
theorem Df {S:TypeId} {z:Value} {nb:Nat} (info:(Tryz.prog.info? E).map (fun i=>(i.zero,i.size,i.bytes))=some (some z,sz,nb)) (hS:Tryz.prog.underlying S=some (.slice E)) (hzs:z.cells.size=sz) (hpos:0<sz) (hnb:nb≤64)
 (henc:∀ x,(enc x).length=sz) (hone:∀ x,∀ u∈enc x,u.oneCell'=true) {ops:Array Oper} {rest:List Oper} {o:Oper} {a:Act} {Q:Exit→Act→World→Prop} (hgd:o.guard=none) (s x:Operand)
 (ho:o.op = .call {callee := .builtin .append,args := #[s,x],argTypes := #[S,S]}) (B:Nat) (v:Value) (xs:List α) (hs:a.eval s=v) (hown:AC enc sz E w B v xs)
 (g:Nat) (y:α) (hx:a.eval x = .slice (some ⟨g,0,none⟩) 1 1) (hy:∀ j u,(enc y)[j]? = some u→w.cell? ⟨g,j,none⟩=some u) (hlen:xs.length≤1099511627775) (hB:B≤w.heap.size)
 (K:∀ v' w',AC enc sz E w' B v' (xs ++ [y])→Below B w w'→w.grownBy w' v.ownBlock→wpList Tryz.prog ops Q rest (a.put o.dst v') w'):wpList Tryz.prog ops Q (o :: rest) a w:=by
 obtain ⟨i0,hi,hz0,hz1,hz2⟩:=info_parts info
 refine wpList_append_own w hgd s x S ho B E i0 z sz nb hS hi hz0 hz1 hz2 hzs hpos v xs.length (xs.flatMap enc) hs hown ⟨g,0,none⟩ 1 1 (enc y) hx (by rw [henc];omega) ?_ (hone y) ?_ ?_ hB ?_
 ·exact Yq
 ·exact J7
 ·have:(xs.length+1)*nb≤1099511627776*64:=Nat.mul_le_mul oM hnb
  omega
 intro v' w' h1 h2 _
 refine K v' w' ?_ (I9 hown h2 hB) h2
 unfold AC
 simpa using h1
end
theorem BC (w:World) (cs:Array Value) (t:TypeId) {l:List Value} (h:cs.toList=l):∀ j u,l[j]? = some u→(w.alloc (.cells cs t)).cell? ⟨w,j,none⟩=some u:=by
 intro j u hj;subst h;rw [World.cell?_alloc_at _ _ _ _ rfl];simpa using hj
theorem AC.made {α:Type} {enc:α→List Value} {sz:Nat} {E:TypeId} (w:World) (B:Nat) (hb:B≤w.heap.size):AC enc sz E (w.alloc (.cells #[] E)) B (.slice (some ⟨w,0,none⟩) 0 0) ([]:List α) :=
 World.ownsRow_made w #[] 0 hb FD sM
section
variable {α:Type} {enc:α→List Value} {sz:Nat} {ok:α→Prop} {E:TypeId} {w w':World} {B:Nat} {v:Value} {xs:List α}
end
end
def Ad (n lo hi:Int):Bool:=decide (lo≤n∧n≤hi)
def AH (n:Int):Bool:=Ad n 0 1125899906842624
def Et (n:Int):Bool:=Ad n 1 99
def Gh (n:Int):Bool:=Ad n 1 1000000
theorem A1X {n lo hi:Int} (h:Ad n lo hi=true):lo≤n∧n≤hi:=by simpa [Ad] using h
theorem Kh {n:Int} (h:AH n=true):0≤n∧n≤1125899906842624:=A1X h
theorem Cy (n lo hi:Int) (w:World):Calls Tryz.prog 124 #[n,lo,hi] w fun e w'=>e = .returned (Ad n lo hi)∧w=w':=by
 go_enter Tryz.func124,Tryz.ntmps124
 go_wp2
 all_goals
  go_ret
  exact ⟨Ag (by simp [Ad]<;>omega),rfl⟩
theorem Az (n:Int) (w:World):Calls Tryz.prog 231 #[n] w fun e w'=>e = .returned (AH n)∧w=w':=by
 go_enter Tryz.func231,Tryz.ntmps231
 go_wp2_with (((go_at_call 124;refine (Cy _ _ _ _).mono ?_);rintro e w1 ⟨rfl,rfl⟩))
 all_goals
  go_ret
  exact ⟨Ag (by simp [AH,Ad]<;>omega),rfl⟩
theorem BP (n:Int) (w:World):Calls Tryz.prog 233 #[n] w fun e w'=>e = .returned (AH n)∧w=w':=by
 go_enter Tryz.func233,Tryz.ntmps233
 go_wp2_with (fail)
 all_goals
  go_ret
  exact ⟨Ag (by simp [AH,Ad]<;>omega),rfl⟩
theorem Mc (n:Int) (w:World):Calls Tryz.prog 238 #[n] w fun e w'=>e = .returned (Et n)∧w=w':=by
 go_enter Tryz.func238,Tryz.ntmps238
 go_wp2_with (((go_at_call 124;refine (Cy _ _ _ _).mono ?_);rintro e w1 ⟨rfl,rfl⟩))
 all_goals
  go_ret
  exact ⟨Ag (by simp [Et,Ad]<;>omega),rfl⟩
theorem Ph (n:Int) (w:World):Calls Tryz.prog 259 #[n] w fun e w'=>e = .returned (Gh n)∧w=w':=by
 go_enter Tryz.func259,Tryz.ntmps259
 go_wp2_with (((go_at_call 124;refine (Cy _ _ _ _).mono ?_);rintro e w1 ⟨rfl,rfl⟩))
 all_goals
  go_ret
  exact ⟨Ag (by simp [Gh,Ad]<;>omega),rfl⟩
def CE (a b:Int):Bool:=AH a && AH b && AH (a+b)
theorem Ul (a b:Int):CE a b=decide ((0≤a∧a≤1125899906842624)∧(0≤b∧b≤1125899906842624)∧0≤a+b∧a+b≤1125899906842624):=by simp [CE,AH,Ad,Bool.and_assoc]
theorem NO {a b:Int} (h:CE a b=true):0≤a∧a≤1125899906842624∧0≤b∧b≤1125899906842624∧a+b≤1125899906842624:=by rw [Ul] at h;have:=of_decide_eq_true h;omega
theorem WE {a b:Int} (h:¬ CE a b=true):a<0∨1125899906842624<a∨b<0∨1125899906842624<b∨1125899906842624<a+b:=by simp only [Ul,decide_eq_true_eq] at h;omega
theorem Qg (n:Int) (w:World):Calls Tryz.prog 308 #[n] w fun e w'=>e = .returned (if AH n=true then .tuple #[n,true] else .tuple #[I0,false])∧w=w':=by
 by_cases h:AH n=true
 ·rw [if_pos h];go_enter Tryz.func308,Tryz.ntmps308
  go_wp2_with (((go_at_call 231;refine (Az _ _).mono ?_);rintro e w1 ⟨rfl,rfl⟩))
  go_ret2;exact ⟨rfl,rfl⟩
 rw [if_neg h];go_enter Tryz.func308,Tryz.ntmps308
 go_wp2_with (((go_at_call 231;refine (Az _ _).mono ?_);rintro e w1 ⟨rfl,rfl⟩))
 go_ret2;exact ⟨rfl,rfl⟩
theorem ML (a b:Int) (w:World):Calls Tryz.prog 264 #[a,b] w fun e w'=>e = .returned (if CE a b=true then .tuple #[.int .i64 (a+b),true] else .tuple #[I0,false])∧w=w':=by
 by_cases h:CE a b=true
 ·have A2V:=trivial;exact Yr
 rw [if_neg h];have hb:=WE h;by_cases h1:AH a=true;rotate_left
 ·have A2W:=trivial;exact Ys
 by_cases h2:AH b=true
 ·have g1:=Kh h1;have g2:=Kh h2;have h3:AH (a+b)=false:=decide_eq_false oM;go_enter Tryz.func264,Tryz.ntmps264
  go_wp2_with (((first | (go_at_call 231;refine (Az _ _).mono ?_) | (go_at_call 308;refine (Qg _ _).mono ?_));rintro e w1 ⟨rfl,rfl⟩))
  go_ret2;exact ⟨rfl,rfl⟩
 go_enter Tryz.func264,Tryz.ntmps264
 go_wp2_with (((first | (go_at_call 231;refine (Az _ _).mono ?_) | (go_at_call 308;refine (Qg _ _).mono ?_));rintro e w1 ⟨rfl,rfl⟩))
 go_ret2;exact ⟨rfl,rfl⟩
theorem J4 (a b:Int) (w:World):Calls Tryz.prog 150 #[a,b] w fun e w'=>e = .returned (if CE a b=true then .tuple #[.int .i64 (a+b),true] else .tuple #[I0,false])∧w=w':=by
 by_cases h:CE a b=true
 ·exact Yr
 rw [if_neg h];have hb:=WE h;by_cases h1:AH a=true;rotate_left
 ·have A2X:=trivial;exact Yt
 by_cases h2:AH b=true
 ·have g1:=Kh h1;have g2:=Kh h2;have h3:AH (a+b)=false:=decide_eq_false oM;go_enter Tryz.func150,Tryz.ntmps150
  go_wp2_with (((go_at_call 233;refine (BP _ _).mono ?_);rintro e w1 ⟨rfl,rfl⟩))
  go_ret2;exact ⟨rfl,rfl⟩
 go_enter Tryz.func150,Tryz.ntmps150
 go_wp2_with (((go_at_call 233;refine (BP _ _).mono ?_);rintro e w1 ⟨rfl,rfl⟩))
 go_ret2;exact ⟨rfl,rfl⟩
theorem yF (x0:Int) (x1:Int) (x2:Int) (x3:Int) (x4:Int) (x5:Int) (x6:Bool) (w:World):Calls Tryz.prog 21 #[.agg #[x0,x1,x2,x3,x4,x5,x6]] w fun e w'=>e = .returned (.agg #[x0,x1,x2,x3,x4,x5,x6])∧Below w w w':=by
 go_enter Tryz.func21,Tryz.ntmps21
 go_wp2;exact bodyPost_ret (v := .agg #[x0,x1,x2,x3,x4,x5,x6]) (by simp [results,Tryz.results21,go_sem]) rfl ⟨rfl,bW⟩
theorem A1b (x0:Int) (x1:Int) (x2:Int) (x3:Int) (x4:Int) (x5:Int) (x6:Bool) (y0:Int) (y1:Int) (y2:Int) (y3:Int) (y4:Int) (y5:Int) (y6:Bool) (w:World):Calls Tryz.prog 110 #[.agg #[x0,x1,x2,x3,x4,x5,x6], .agg #[y0,y1,y2,y3,y4,y5,y6]] w fun e w'=>e = .returned (decide (x0=y0∧x1=y1∧x2=y2∧x3=y3∧x4=y4∧x5=y5∧x6=y6))∧Below w w w':=by
 go_enter Tryz.func110,Tryz.ntmps110
 go_wp2
 all_goals
  go_ret
  exact ⟨Ag (by simp_all),bW⟩
theorem zX (x0:Int) (x1:Int) (x2:Int) (x3:Int) (x4:Int) (x5:Int) (x6:Int) (w:World):Calls Tryz.prog 255 #[.agg #[x0,x1,x2,x3,x4,x5,x6]] w fun e w'=>e = .returned (.agg #[x0,x1,x2,x3,x4,x5,x6])∧Below w w w':=by
 go_enter Tryz.func255,Tryz.ntmps255
 go_wp2;exact bodyPost_ret (v := .agg #[x0,x1,x2,x3,x4,x5,x6]) (by simp [results,Tryz.results255,go_sem]) rfl ⟨rfl,bW⟩
theorem A14 (x0:Int) (x1:Int) (x2:Int) (x3:Int) (x4:Int) (x5:Int) (x6:Int) (y0:Int) (y1:Int) (y2:Int) (y3:Int) (y4:Int) (y5:Int) (y6:Int) (w:World):Calls Tryz.prog 275 #[.agg #[x0,x1,x2,x3,x4,x5,x6], .agg #[y0,y1,y2,y3,y4,y5,y6]] w fun e w'=>e = .returned (decide (x0=y0∧x1=y1∧x2=y2∧x3=y3∧x4=y4∧x5=y5∧x6=y6))∧Below w w w':=by
 go_enter Tryz.func275,Tryz.ntmps275
 go_wp2
 all_goals
  go_ret
  exact ⟨Ag (by simp_all),bW⟩
theorem zV (x0:Int) (x1:Int) (x2:Int) (x3:Int) (x4:Int) (x5:Bool) (x6:Int) (w:World):Calls Tryz.prog 256 #[.agg #[x0,x1,x2,x3,x4,x5,x6]] w fun e w'=>e = .returned (.agg #[x0,x1,x2,x3,x4,x5,x6])∧Below w w w':=by
 go_enter Tryz.func256,Tryz.ntmps256
 go_wp2;exact bodyPost_ret (v := .agg #[x0,x1,x2,x3,x4,x5,x6]) (by simp [results,Tryz.results256,go_sem]) rfl ⟨rfl,bW⟩
theorem xR (x0:Int) (x1:Int) (x2:Int) (x3:Int) (x4:Int) (x5:Bool) (x6:Int) (y0:Int) (y1:Int) (y2:Int) (y3:Int) (y4:Int) (y5:Bool) (y6:Int) (w:World):Calls Tryz.prog 276 #[.agg #[x0,x1,x2,x3,x4,x5,x6], .agg #[y0,y1,y2,y3,y4,y5,y6]] w fun e w'=>e = .returned (decide (x0=y0∧x1=y1∧x2=y2∧x3=y3∧x4=y4∧x5=y5∧x6=y6))∧Below w w w':=by
 go_enter Tryz.func276,Tryz.ntmps276
 go_wp2
 all_goals
  go_ret
  exact ⟨Ag (by simp_all),bW⟩
theorem A1K (x0:Int) (x1:Int) (x2:Int) (x3:Int) (x4:Int) (w:World):Calls Tryz.prog 257 #[.agg #[x0,x1,x2,x3,x4]] w fun e w'=>e = .returned (.agg #[x0,x1,x2,x3,x4])∧Below w w w':=by
 go_enter Tryz.func257,Tryz.ntmps257
 go_wp2;exact bodyPost_ret (v := .agg #[x0,x1,x2,x3,x4]) (by simp [results,Tryz.results257,go_sem]) rfl ⟨rfl,bW⟩
theorem xm (x0:Int) (x1:Int) (x2:Int) (x3:Int) (x4:Int) (y0:Int) (y1:Int) (y2:Int) (y3:Int) (y4:Int) (w:World):Calls Tryz.prog 277 #[.agg #[x0,x1,x2,x3,x4], .agg #[y0,y1,y2,y3,y4]] w fun e w'=>e = .returned (decide (x0=y0∧x1=y1∧x2=y2∧x3=y3∧x4=y4))∧Below w w w':=by
 go_enter Tryz.func277,Tryz.ntmps277
 go_wp2
 all_goals
  go_ret
  exact ⟨Ag (by simp_all),bW⟩
theorem A1W (x0:Int) (x1:Int) (w:World):Calls Tryz.prog 306 #[.agg #[x0,x1]] w fun e w'=>e = .returned (.agg #[x0,x1])∧Below w w w':=by
 go_enter Tryz.func306,Tryz.ntmps306
 go_wp2;exact bodyPost_ret (v := .agg #[x0,x1]) (by simp [results,Tryz.results306,go_sem]) rfl ⟨rfl,bW⟩
theorem QK (x0:Int) (x1:Int) (y0:Int) (y1:Int) (w:World):Calls Tryz.prog 311 #[.agg #[x0,x1], .agg #[y0,y1]] w fun e w'=>e = .returned (decide (x0=y0∧x1=y1))∧Below w w w':=by
 go_enter Tryz.func311,Tryz.ntmps311
 go_wp2
 all_goals
  go_ret
  exact ⟨Ag (by simp_all),bW⟩
theorem A2F (x0:Int) (x1:Int) (x2:Int) (w:World):Calls Tryz.prog 258 #[.agg #[x0,x1,x2]] w fun e w'=>e = .returned (.agg #[x0,x1,x2])∧Below w w w':=by
 go_enter Tryz.func258,Tryz.ntmps258
 go_wp2_with (((go_at_call 306;refine (A1W _ _ _).mono ?_);(rintro e w1 ⟨rfl,hb⟩;(try (replace H0:=A7 H0 hb bS;clear hc0 hf0 hs0 hz0;obtain ⟨hc0,hf0,hs0,hz0⟩:=AS H0));(try (replace H1:=A7 H1 hb bS;clear hc1 hf1 hs1 hz1;obtain ⟨hc1,hf1,hs1,hz1⟩:=AS H1));(try (replace H2:=A7 H2 hb bS;clear hc2 hf2 hs2 hz2;obtain ⟨hc2,hf2,hs2,hz2⟩:=AS H2));(try replace S0:=S0.keep (AD hb bS));(try replace S1:=S1.keep (AD hb bS));(try replace S2:=S2.keep (AD hb bS));(try replace S3:=S3.keep (AD hb bS));(first | ((fail_if_success (have ht:=H0));have H0:=hb;obtain ⟨hc0,hf0,hs0,hz0⟩:=AS H0) | ((fail_if_success (have ht:=H1));have H1:=hb;obtain ⟨hc1,hf1,hs1,hz1⟩:=AS H1) | ((fail_if_success (have ht:=H2));have H2:=hb;obtain ⟨hc2,hf2,hs2,hz2⟩:=AS H2) | skip))))
 refine bodyPost_ret (by simp only [results,Tryz.results258];go_simp;rfl) rfl ?_;exact ⟨rfl,bW⟩
theorem A1N (x0:Int) (x1:Int) (x2:Int) (y0:Int) (y1:Int) (y2:Int) (w:World):Calls Tryz.prog 278 #[.agg #[x0,x1,x2], .agg #[y0,y1,y2]] w fun e w'=>e = .returned (decide (x0=y0∧x1=y1∧x2=y2))∧Below w w w':=by
 by_cases hA:x0=y0∧x1=y1;rotate_left
 ·have hd:=decide_eq_false hA;have hr:=lH (decide_eq_false (show ¬ (x0=y0∧x1=y1∧x2=y2) from fun h=>hA ⟨h.1,h.2.1⟩));clear hA;go_enter Tryz.func278,Tryz.ntmps278
  go_wp2_with (go_at_call 311;refine (QK _ _ _ _ _).mono ?_;rintro e w1 ⟨he,hb⟩;rw [hd] at he;subst he;obtain ⟨hc0,hf0,hs0,hz0⟩:=AS hb)
  go_ret;exact ⟨Ag JL,AD hb (bW)⟩
 have hd:=decide_eq_true hA;by_cases hB:x2=y2
 ·have hr:=lH (decide_eq_true (show x0=y0∧x1=y1∧x2=y2 from ⟨hA.1,hA.2,hB⟩));have hB':(x2 == y2)=true:=by simp [hB]
  clear hA hB;go_enter Tryz.func278,Tryz.ntmps278
  go_wp2_with (go_at_call 311;refine (QK _ _ _ _ _).mono ?_;rintro e w1 ⟨he,hb⟩;rw [hd] at he;subst he;obtain ⟨hc0,hf0,hs0,hz0⟩:=AS hb)
  go_ret;exact ⟨Ag JL,AD hb (bW)⟩
 have hr:=lH (decide_eq_false (show ¬ (x0=y0∧x1=y1∧x2=y2) from fun h=>hB h.2.2));have hB':(x2 == y2)=false:=by simp [hB]
 clear hA hB;go_enter Tryz.func278,Tryz.ntmps278
 go_wp2_with (go_at_call 311;refine (QK _ _ _ _ _).mono ?_;rintro e w1 ⟨he,hb⟩;rw [hd] at he;subst he;obtain ⟨hc0,hf0,hs0,hz0⟩:=AS hb)
 go_ret;exact ⟨Ag JL,AD hb (bW)⟩
section
structure Kd (α β:Type) where
 enc:α→Value→List Value
 sz:Nat
 inn:α→List β
 ok:α→Prop
 encB:β→List Value
 szB:Nat
 okB:β→Prop
 E:TypeId
 EB:TypeId
 len:∀ x v,(enc x v).length=sz
 lenB:∀ y,(encB y).length=szB
section
variable {α β:Type} {K:Kd α β} {w w':World} {B B':Nat} {a:Option Addr} {len:Nat} {xs:List α}
structure Ex (F:List Nat) (w w':World):Prop where
 os:w'.os=w.os
 tape:w'.tape=w.tape
 output:w'.output=w.output
 size:w.heap.size≤w'.heap.size
 block:∀ k,k<w.heap.size→k∉F→w'.heap[k]? = w.heap[k]?
theorem Ex.refl (F:List Nat) (w:World):Ex F w w:=⟨rfl,rfl,rfl,Nat.le_refl _,fun _ _ _=>rfl⟩
theorem Ex.of_grown {r:Option Nat} (h:w.grownBy w' r):Ex r.toList w w':=⟨h.os,h.tape,h.output,h.size,fun k hk hn=>h.block k hk (fun e=>hn (by rw [← e];simp))⟩
theorem Ex.of_below (h:Below w w w') (F:List Nat):Ex F w w':=⟨h.os,h.tape,h.output,h.size,fun k hk _=>h.block k hk⟩
theorem Ex.more {F G:List Nat} (h:Ex F w w') (hs:∀ k∈F,k∈G):Ex G w w':=⟨h.os,h.tape,h.output,h.size,fun k hk hn=>h.block k hk (fun e=>hn (hs k e))⟩
theorem Ex.trans {F:List Nat} {w1 w2:World} (h:Ex F w w1) (h2:Ex F w1 w2):Ex F w w2 :=
 ⟨h2.os.trans h.os,h2.tape.trans h.tape,h2.output.trans h.output,Nat.le_trans h.size h2.size,fun k hk hn=>(h2.block k (Nat.lt_of_lt_of_le hk h.size) hn).trans (h.block k hk hn)⟩
theorem Ex.below {F:List Nat} (h:Ex F w w') (hF:∀ k∈F,B≤k) (hs:B≤w.heap.size):Below B w w':=⟨h.os,h.tape,h.output,h.size,fun k hk=>h.block k (Nat.lt_of_lt_of_le hk hs) (fun e=>by have:=hF k e;omega)⟩
theorem Ex.cell {F:List Nat} (h:Ex F w w') {b o:Nat} {v:Value} (hc:w.cell? ⟨b,o,none⟩=some v) (hn:b∉F):w'.cell? ⟨b,o,none⟩=some v:=by
 rw [World.cell?_of_block (w:=w) (a:=⟨b,o,none⟩) (h.block b (Lib.lt_of_cell hc) hn)];exact hc
theorem Ex.fs {γ:Type} {en:γ→List Value} {s:Nat} {o:γ→Prop} {F:List Nat} {len:Nat} {ys:List γ} (h:Ex F w w') (hi:FS en s o w B a len ys) (hF:∀ k∈F,B≤k):FS en s o w' B a len ys :=
 ⟨hi.1,hi.2.1,hi.2.2.1,fun i x hx=>by
  obtain ⟨b,off,e,hlt,hc⟩:=hi.2.2.2 i x hx
  exact ⟨b,off,e,hlt,fun j v hv=>h.cell (hc j v hv) fun hm=>by have:=hF b hm;omega⟩⟩
def A5 (vs:List Value):List Nat:=vs.filterMap Value.ownBlock
theorem EA (v:Value) (vs:List Value):A5 (v :: vs)=v.ownBlock.toList ++ A5 vs:=by
 unfold A5;cases h:v.ownBlock<;>simp [h]
theorem Xs (vs us:List Value):A5 (vs ++ us)=A5 vs ++ A5 us:=by unfold A5;rw [List.filterMap_append]
theorem Ff {E:TypeId} {s n:Nat} {v:Value} {cs:List Value} {F:List Nat} (h:w.ownsRow B E s v n cs) (hx:Ex F w w') (hn:∀ k∈v.ownBlock.toList,k∉F):w'.ownsRow B E s v n cs:=by
 refine ⟨h.1,?_⟩;rcases h.2 with h2 | ⟨g,cap,cur,rfl,hg,hh,hr⟩
 ·exact .inl h2
 refine .inr ⟨g,cap,cur,rfl,hg,?_,hr⟩
 have hlt:g<w.heap.size:=by
  exact Yp
 rw [hx.block g hlt (hn g FF)];exact hh
theorem M3 {E:TypeId} {s n:Nat} {v:Value} {cs:List Value} (h:w.ownsRow B E s v n cs) (hB:B'≤B):w.ownsRow B' E s v n cs:=by
 refine ⟨h.1,?_⟩;rcases h.2 with h2 | ⟨g,cap,cur,rfl,hg,hr⟩
 ·exact .inl h2
 exact .inr ⟨g,cap,cur,rfl,Nat.le_trans hB hg,hr⟩
def EF (K:Kd α β) (xs:List α) (vs:List Value):List Value:=(xs.zip vs).flatMap fun p=>K.enc p.1 p.2
theorem A02 (K:Kd α β) (xs:List α) (vs:List Value) (i:Nat) (x:α) (u:Value) (j:Nat) (v:Value) (hx:xs[i]? = some x) (hu:vs[i]? = some u) (hj:(K.enc x u)[j]? = some v):(EF K xs vs)[i*K.sz+j]? = some v:=by
 refine Km (enc:=fun p:α × Value=>K.enc p.1 p.2) (sz:=K.sz) (fun p=>K.len p.1 p.2) (xs.zip vs) i (x,u) j v ?_ hj;rw [List.getElem?_zip_eq_some];exact ⟨hx,hu⟩
theorem Vj (K:Kd α β) (xs:List α) (vs:List Value) (h:vs.length=xs.length):(EF K xs vs).length=xs.length*K.sz:=by
 unfold EF;rw [DN (enc:=fun p:α × Value=>K.enc p.1 p.2) (sz:=K.sz) (fun p=>K.len p.1 p.2),List.length_zip,h,Nat.min_self]
theorem Xo (K:Kd α β) (xs:List α) (vs:List Value) (x:α) (u:Value) (h:vs.length=xs.length):EF K (xs ++ [x]) (vs ++ [u])=EF K xs vs ++ K.enc x u:=by
 unfold EF;rw [List.zip_append oM];simp
structure ON (K:Kd α β) (w:World) (B:Nat) (v:Value) (xs:List α) (vs:List Value):Prop where
 len:vs.length=xs.length
 row:w.ownsRow B K.E K.sz v xs.length (EF K xs vs)
 ok:∀ x∈xs,K.ok x
 inn:∀ (i:Nat) (x:α) (u:Value),xs[i]? = some x→vs[i]? = some u→AC K.encB K.szB K.EB w B u (K.inn x)
 okB:∀ x∈xs,∀ y∈K.inn x,K.okB y
 nd:(A5 (v :: vs)).Nodup
variable {v:Value} {vs:List Value}
theorem ON.nil (w:World) (B:Nat):ON K w B (.slice none 0 0) ([]:List α) [] :=
 ⟨rfl,⟨by simp [EF], .inl ⟨rfl,rfl⟩⟩,AP,fun i x u hx=>IX,AP,by show (List.filterMap _ _).Nodup;rw [List.filterMap_cons];show (List.filterMap Value.ownBlock []).Nodup;exact List.nodup_nil⟩
theorem Cj {E:TypeId} {s n:Nat} {u:Value} {cs:List Value} (h:w.ownsRow B E s u n cs):∀ k∈u.ownBlock.toList,B≤k∧k<w.heap.size:=fun k hk=>by
 cases hb:u.ownBlock with
 | none=>rw [hb] at hk;simp at hk
 | some g =>
  rw [hb] at hk;simp at hk;subst hk;exact h.lt k hb
theorem ON.lt (h:ON K w B v xs vs):∀ k∈A5 (v :: vs),B≤k∧k<w.heap.size:=fun k hk=>by
 rw [EA] at hk;rcases List.mem_append.1 hk with hk | hk
 ·exact Cj h.row k hk
 obtain ⟨u,hu,hb⟩:=List.mem_filterMap.1 hk;obtain ⟨i,hi,rfl⟩:=List.getElem_of_mem hu;have hl:=h.len;exact Cj (h.inn i _ _ (List.getElem?_eq_getElem oM) (List.getElem?_eq_getElem hi)) k (by rw [hb];simp)
theorem Iw {u:Value} {us:List Value} (hu:u∈us) {k:Nat} (hk:k∈u.ownBlock.toList):k∈A5 us:=by
 refine List.mem_filterMap.2 ⟨u,hu,?_⟩
 cases hb:u.ownBlock with
 | none=>rw [hb] at hk;simp at hk
 | some g=>rw [hb] at hk;simp at hk;rw [hk]
theorem ON.kept {F:List Nat} (h:ON K w B v xs vs) (hx:Ex F w w') (hn:∀ k∈A5 (v :: vs),k∉F):ON K w' B v xs vs :=
 ⟨h.len,Ff h.row hx (fun k hk=>hn k (Iw List.mem_cons_self hk)),h.ok,fun i x u h1 h2=>Ff (h.inn i x u h1 h2) hx (fun k hk=>hn k (Iw (List.mem_cons_of_mem _ (List.mem_of_getElem? h2)) hk)),h.okB,h.nd⟩
theorem ON.keep (h:ON K w B v xs vs) (hb:Below w w w'):ON K w' B v xs vs:=h.kept (Ex.of_below hb []) (fun k _=>AP)
theorem ON.le (h:ON K w B v xs vs) (hB:B'≤B):ON K w B' v xs vs :=
 ⟨h.len,M3 h.row hB,h.ok,fun i x u h1 h2=>M3 (h.inn i x u h1 h2) hB,h.okB,h.nd⟩
theorem ON.form (h:ON K w B v xs vs):∃ a c,v = .slice a xs.length c∧xs.length≤c∧xs.length≤maxLen:=by
 rcases h.row.2 with ⟨h1,h2⟩ | ⟨g,cap,cur,h1,_,_,h3,h4,_⟩
 ·exact ⟨none,0,by rw [h1,h2],AA,AA⟩
 exact ⟨_,cap,h1,h3,Nat.le_trans h3 h4⟩
end
end
end Go.Proofs.YtahefgkdbecemaaGreat
