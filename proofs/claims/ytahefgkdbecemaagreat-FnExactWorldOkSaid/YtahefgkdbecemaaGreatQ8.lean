/- The walks and the laws they lean on. -/
import Derived.Test.YtahefgkdbecemaaGreatQ7
namespace Go.Proofs.YtahefgkdbecemaaGreat
open Go.RowKit
set_option linter.unusedVariables false
set_option linter.unusedSimpArgs false
set_option maxRecDepth 100000
set_option maxHeartbeats 12800000
def Am (n:Int):Prop:=0≤n∧n≤1125899906842624
theorem Jr (n:Int):AH n=true↔Am n:=by unfold AH Ad Am;rw [decide_eq_true_eq]
theorem DO (l:List Cn) (x:Int):AI l x=true↔∃ c∈l,c.id=x:=by unfold AI;rw [List.any_eq_true];simp
theorem A01 (l:List Int) (x:Int):EU l x=true↔x∈l:=by unfold EU;rw [List.any_eq_true];simp
theorem tn (l:List Int) (x:Int):EU l x=false↔x∉l:=by rw [← A01,Bool.not_eq_true]
theorem VG:∀ (l seen:List Int),DT seen l=true↔(∀ k∈l,1≤k∧k≤1000000)∧(∀ k∈l,k∉seen)∧l.Nodup
 | [],seen=>by simp [DT]
 | k :: r,seen=>by
  rw [DT,Bool.and_eq_true,Bool.and_eq_true,VG r (seen ++ [k]),Bool.not_eq_true',tn];unfold Gh Ad;rw [decide_eq_true_eq];constructor
  ·rintro ⟨⟨h1,h2⟩,h3,h4,h5⟩;refine ⟨fun x hx => ?_,fun x hx => ?_,List.nodup_cons.2 ⟨fun hk => ?_,h5⟩⟩
   ·rcases List.mem_cons.1 hx with rfl | hx
    ·exact h1
    exact h3 x hx
   ·rcases List.mem_cons.1 hx with rfl | hx
    ·exact h2
    exact fun hs=>h4 x hx (List.mem_append_left _ hs)
   exact h4 k hk sM
  rintro ⟨h1,h2,h3⟩;obtain ⟨h4,h5⟩:=List.nodup_cons.1 h3;refine ⟨⟨h1 k List.mem_cons_self,h2 k List.mem_cons_self⟩,fun x hx=>h1 x (List.mem_cons_of_mem _ hx),fun x hx hs => ?_,h5⟩;rcases List.mem_append.1 hs with hs | hs
  ·exact h2 x (List.mem_cons_of_mem _ hx) hs
  simp at hs;subst hs;exact h4 hx
def Ap (l:List Cn) (x y:Int):Prop:=x≠y∧(∃ c∈l,c.id=x)∧∃ c∈l,c.id=y
theorem Vt (l:List Cn) (x y:Int):Cp l x y=true↔Ap l x y:=by
 unfold Cp Ap;rw [Bool.and_eq_true,Bool.and_eq_true,DO,DO];simp
structure Hk (l:List Cn) (h:Ht):Prop where
 ain:Am h.ain
 o1:1≤h.aout
 o2:h.aout≤h.ain
 age:Am h.age
 ap:Ap l h.inn h.out
theorem Xl (l:List Cn) (h:Ht):Dy l h=true↔Hk l h:=by
 unfold Dy;rw [Bool.and_eq_true,Bool.and_eq_true,Bool.and_eq_true,Jr,Jr,Vt,decide_eq_true_eq];exact ⟨fun ⟨⟨⟨a,b,c⟩,d⟩,e⟩=>⟨a,b,c,d,e⟩,fun ⟨a,b,c,d,e⟩=>⟨⟨⟨a,b,c⟩,d⟩,e⟩⟩
structure Ok1 (l:List Cn) (c:Ci):Prop where
 amt:Am c.amt
 a1:1≤c.amt
 fee:Am c.fee
 ap:Ap l c.frm c.tw
theorem Xw (l:List Cn) (c:Ci):D0 l c=true↔Ok1 l c:=by
 unfold D0;rw [Bool.and_eq_true,Bool.and_eq_true,Bool.and_eq_true,Jr,Jr,Vt,decide_eq_true_eq];exact ⟨fun ⟨⟨⟨a,b⟩,d⟩,e⟩=>⟨a,b,d,e⟩,fun ⟨a,b,d,e⟩=>⟨⟨⟨a,b⟩,d⟩,e⟩⟩
structure Pk (b:Bk):Prop where
 h60:b.htlcs.length≤60
 c20:b.circles.length≤20
 hs:∀ h∈b.htlcs,Hk b.chans h
 cs:∀ c∈b.circles,Ok1 b.chans c
 ks:∀ k∈A1 b,1≤k∧k≤1000000
 nd:(A1 b).Nodup
theorem Pg (b:Bk):CW b=true↔Pk b:=by
 unfold CW Fb;rw [Bool.and_eq_true,Bool.and_eq_true,Bool.and_eq_true,Bool.and_eq_true,decide_eq_true_eq,decide_eq_true_eq,List.all_eq_true,List.all_eq_true,VG];constructor
 ·rintro ⟨⟨⟨⟨a,b⟩,c⟩,d⟩,e,-,f⟩;exact ⟨a,b,fun h hh=>(Xl _ _).1 (c h hh),fun x hx=>(Xw _ _).1 (d x hx),e,f⟩
 rintro ⟨a,b,c,d,e,f⟩;exact ⟨⟨⟨⟨a,b⟩,fun h hh=>(Xl _ _).2 (c h hh)⟩,fun x hx=>(Xw _ _).2 (d x hx)⟩,e,AP,f⟩
structure Ck (b:Bk) (c:Cn):Prop where
 id:1≤c.id∧c.id≤99
 loc:Am c.loc
 rem:Am c.rem
 base:Am c.base
 ppm:0≤c.ppm∧c.ppm≤1000000
 score : -100≤c.score∧c.score≤100
 size:Am c.size
 sum:c.size=c.loc+c.rem+BJ b c.id+BU b c.id
theorem uj (b:Bk) (c:Cn):Er b c=true↔Ck b c:=by
 unfold Er Et BI Ad;simp only [Bool.and_eq_true,Jr,decide_eq_true_eq];exact ⟨fun ⟨⟨⟨⟨⟨⟨⟨h1,h2⟩,h3⟩,h4⟩,h5⟩,h6⟩,h7⟩,h8⟩=>⟨h1,h2,h3,h4,h5,h6,h7,h8⟩,fun ⟨h1,h2,h3,h4,h5,h6,h7,h8⟩=>⟨⟨⟨⟨⟨⟨⟨h1,h2⟩,h3⟩,h4⟩,h5⟩,h6⟩,h7⟩,h8⟩⟩
def Cv (l:List Cn):Prop:=l.Pairwise fun x y=>x.id<y.id
theorem NS:∀ (l:List Cn),K3 l=true↔Cv l
 | []=>⟨fun _=>List.Pairwise.nil,fun _=>rfl⟩
 | [x]=>⟨fun _=>List.pairwise_singleton _ _,fun _=>rfl⟩
 | x :: y :: r=>by
  have ih:=NS (y :: r);unfold K3;rw [Bool.and_eq_true,ih,decide_eq_true_eq];unfold Cv;rw [List.pairwise_cons (a:=x)];constructor
  ·exact Y4
  rintro ⟨h1,h2⟩;exact ⟨h1 y List.mem_cons_self,h2⟩
structure Bok (b:Bk):Prop where
 tick:Am b.tick
 wallet:Am b.wallet
 next:1≤b.next∧b.next≤1125899906842624
 n20:b.chans.length≤20
 pk:Pk b
 ck:∀ c∈b.chans,Ck b c
 so:Cv b.chans
theorem Gc (b:Bk):Ak b=true↔Bok b:=by
 unfold Ak Fy Ad;simp only [Bool.and_eq_true,Jr,decide_eq_true_eq,Pg,List.all_eq_true,NS,uj];exact ⟨fun ⟨⟨⟨⟨⟨h1,h2⟩,h3⟩,h4⟩,h5⟩,h6,h7⟩=>⟨h1,h2,h3,h4,h5,h6,h7⟩,fun ⟨h1,h2,h3,h4,h5,h6,h7⟩=>⟨⟨⟨⟨⟨h1,h2⟩,h3⟩,h4⟩,h5⟩,h6,h7⟩⟩
theorem Ku {α:Type} (f:α→Int):∀ (l:List α),(∀ x∈l,0≤f x)→0≤(l.map f).sum
 | [],_=>AP
 | x :: l,h=>by
  have:=Ku f l fun y hy=>h y (List.mem_cons_of_mem _ hy)
  exact ZK
theorem LF {α:Type} (f:α→Int):∀ (l:List α),(∀ x∈l,f x=0)→(l.map f).sum=0
 | [],_=>AP
 | x :: l,h=>by
  have:=LF f l fun y hy=>h y (List.mem_cons_of_mem _ hy)
  exact ZK
theorem Pk.out_nn {b:Bk} (h:Pk b) (x:Int):0≤BJ b x:=by
 have h1:=Ku (BS x) b.htlcs fun y hy=>by have:=h.hs y hy;have:=this.o1;unfold BS;split<;>omega
 have h2:=Ku (CY x) b.circles fun y hy=>by have:=h.cs y hy;have h3:=this.a1;have h4:=this.fee.1;unfold CY;split<;>omega
 unfold BJ;omega
theorem Pk.into_nn {b:Bk} (h:Pk b) (x:Int):0≤BU b x:=by
 have h1:=Ku (Bb x) b.htlcs fun y hy=>by have:=h.hs y hy;have:=this.ain.1;unfold Bb;split<;>omega
 have h2:=Ku (Bu x) b.circles fun y hy=>by have:=h.cs y hy;have h3:=this.a1;unfold Bu;split<;>omega
 unfold BU;omega
theorem Pk.out_no {b:Bk} (h:Pk b) {x:Int} (hx:∀ c∈b.chans,c.id≠x):BJ b x=0∧BU b x=0:=by
 have hh:∀ y∈b.htlcs,y.out≠x∧y.inn≠x:=fun y hy=>by
  obtain ⟨_,⟨c,hc,e⟩,⟨d,hd,e2⟩⟩:=(h.hs y hy).ap;exact ⟨fun e3=>hx d hd (e2.trans e3),fun e3=>hx c hc (e.trans e3)⟩
 have hc:∀ y∈b.circles,y.frm≠x∧y.tw≠x:=fun y hy=>by
  obtain ⟨_,⟨c,hc,e⟩,⟨d,hd,e2⟩⟩:=(h.cs y hy).ap;exact ⟨fun e3=>hx c hc (e.trans e3),fun e3=>hx d hd (e2.trans e3)⟩
 unfold BJ BU;rw [LF (BS x) b.htlcs fun y hy=>if_neg (hh y hy).1,LF (CY x) b.circles fun y hy=>if_neg (hc y hy).1,LF (Bb x) b.htlcs fun y hy=>if_neg (hh y hy).2,LF (Bu x) b.circles fun y hy=>if_neg (hc y hy).2];exact EI
theorem Me {l:List Cn} (hs:Cv l) {c:Cn} (hc:c∈l):AM l c.id=c:=by
 unfold AM
 induction l with
 | nil=>cases hc
 | cons x l ih =>
  obtain ⟨h1,h2⟩:=List.pairwise_cons.1 hs;rw [List.find?_cons];rcases List.mem_cons.1 hc with rfl | hc
  ·rw [decide_eq_true rfl];rfl
  have:=h1 c hc
  rw [decide_eq_false oM];exact ih h2 hc
theorem Ei {l:List Cn} {x:Int} (h:AI l x=true):AM l x∈l∧(AM l x).id=x:=by
 unfold AM
 cases hf:l.find? fun c=>decide (c.id=x) with
 | none =>
  obtain ⟨c,hc,e⟩:=(DO l x).1 h;have:=List.find?_eq_none.1 hf c hc
  simp [e] at this
 | some c =>
  exact RE
theorem M0 {b b':Bk} (h:Bok b) (g:Cn→Cn) (ht:Am b'.tick) (hw:Am b'.wallet) (hn:1≤b'.next∧b'.next≤1125899906842624) (hc:b'.chans=b.chans.map g) (hid:∀ c,(g c).id=c.id) (hp:Pk b')
 (hg:∀ c∈b.chans,(g c).size=c.size∧0≤(g c).loc∧0≤(g c).rem∧Am (g c).base∧(0≤(g c).ppm∧(g c).ppm≤1000000)∧(-100≤(g c).score∧(g c).score≤100)∧c.size=(g c).loc+(g c).rem+BJ b' c.id+BU b' c.id):Bok b':=by
 refine ⟨ht,hw,hn,by rw [hc,List.length_map];exact h.n20,hp,fun c hcm => ?_,?_⟩
 ·rw [hc] at hcm;obtain ⟨d,hd,rfl⟩:=List.mem_map.1 hcm;obtain ⟨g1,g2,g3,g4,g5,g6,g7⟩:=hg d hd;have hk:=h.ck d hd;have o1:=hp.out_nn d.id;have o2:=hp.into_nn d.id;have hsz:=hk.size;unfold Am at hsz;exact ⟨by rw [hid];exact hk.id,⟨g2,AA⟩,⟨g3,AA⟩,g4,g5,g6,by rw [g1];exact hk.size,by rw [g1,hid];exact g7⟩
 rw [hc]
 exact List.Pairwise.map g (fun x y hxy=>by rw [hid,hid];exact hxy) h.so
theorem Kv {l:List Cn} (g:Cn→Cn) (hid:∀ c,(g c).id=c.id) {x y:Int} (h:Ap l x y):Ap (l.map g) x y:=by
 obtain ⟨h1,⟨c,hc,e⟩,⟨d,hd,e2⟩⟩:=h;exact ⟨h1,⟨g c,List.mem_map.2 ⟨c,hc,rfl⟩,by rw [hid];exact e⟩,⟨g d,List.mem_map.2 ⟨d,hd,rfl⟩,by rw [hid];exact e2⟩⟩
theorem Kq {l:List Cn} (g:Cn→Cn) (hid:∀ c,(g c).id=c.id) {h:Ht} (hh:Hk l h):Hk (l.map g) h:=⟨hh.ain,hh.o1,hh.o2,hh.age,Kv g hid hh.ap⟩
theorem Je {l:List Cn} (g:Cn→Cn) (hid:∀ c,(g c).id=c.id) {c:Ci} (hh:Ok1 l c):Ok1 (l.map g) c:=⟨hh.amt,hh.a1,hh.fee,Kv g hid hh.ap⟩
theorem Ki {α:Type} (key:α→Int) (f:α→Int):∀ (l:List α) (x:α),x∈l→(l.map key).Nodup→((l.filter fun y => !decide (key y=key x)).map f).sum+f x=(l.map f).sum
 | [],x,h,_=>by cases h
 | y :: l,x,h,hn=>by
  rw [List.map_cons] at hn;obtain ⟨h1,h2⟩:=List.nodup_cons.1 hn;rcases List.mem_cons.1 h with rfl | h
  ·have e:(l.filter fun y => !decide (key y=key x))=l:=by
    refine List.filter_eq_self.2 fun z hz => ?_;(have:key z≠key x:=fun e=>h1 (List.mem_map.2 ⟨z,hz,e⟩));simp [this]
   rw [List.filter_cons];simp only [decide_true,Bool.not_true,Bool.false_eq_true,if_false];rw [e,List.map_cons,List.sum_cons];omega
  have hne:key y≠key x:=fun e=>h1 (List.mem_map.2 ⟨x,h,e.symm⟩);have ih:=Ki key f l x h h2;rw [List.filter_cons];simp only [decide_eq_false hne,Bool.not_false,if_true];rw [List.map_cons,List.sum_cons,List.map_cons,List.sum_cons];omega
theorem zR {b:Bk} {k:Int} (h:Aw b k=true):Ac b k∈b.htlcs∧(Ac b k).key=k:=by
 unfold Ac
 cases hf:b.htlcs.find? fun c=>decide (c.key=k) with
 | none =>
  unfold Aw at h;exact ZL
 | some c =>
  exact RE
theorem wW {b:Bk} {k:Int} (h:Ay b k=true):AW b k∈b.circles∧(AW b k).key=k:=by
 unfold AW
 cases hf:b.circles.find? fun c=>decide (c.key=k) with
 | none =>
  unfold Ay at h;exact ZL
 | some c =>
  exact RE
theorem WS {b:Bk} {k:Int} (h:Aw b k=false):k∉b.htlcs.map (·.key):=fun hm=>by
 obtain ⟨x,hx,e⟩:=List.mem_map.1 hm;unfold Aw at h;have:=List.any_eq_false.1 h x hx
 simp [e] at this
theorem U5 {b:Bk} {k:Int} (h:Ay b k=false):k∉b.circles.map (·.key):=fun hm=>by
 obtain ⟨x,hx,e⟩:=List.mem_map.1 hm;unfold Ay at h;have:=List.any_eq_false.1 h x hx
 simp [e] at this
def A9 (l:List Ln) (k c:Int):Int:=(l.map fun x=>if x.kind=k∧x.ch=c then x.amt else 0).sum
theorem Vy (x:Ln) (l:List Ln) (k c:Int):A9 (x :: l) k c=(if x.kind=k∧x.ch=c then x.amt else 0)+A9 l k c:=by simp [A9]
theorem Gg:∀ (l:List Ln) (k c:Int),A9 (BL l) k c=A9 l k c
 | [],k,c=>rfl
 | x :: l,k,c=>by
  have ih:=Gg l k c;unfold BL at ih ⊢;rw [List.filter_cons,Vy];by_cases h:x.amt=0
  ·rw [h];simp only [decide_true,Bool.not_true,Bool.false_eq_true,if_false];rw [ih];split<;>omega
  rw [decide_eq_false h];simp only [Bool.not_false,if_true];rw [Vy,ih]
def Fk (b:Bk) (x:Int):Int:=if AI b.chans x=true then (AM b.chans x).loc else 0
structure Stp (b b':Bk) (ls:List Ln):Prop where
 bok:Bok b'
 wal:b'.wallet=b.wallet+A9 ls 1 0
 loc:∀ x,Fk b' x=Fk b x+A9 ls 6 x
 out:∀ x,BJ b' x=BJ b x+A9 ls 8 x
 in7:∀ x,A9 ls 7 x=0
 nx:b'.next=b.next
theorem V9 (l:List Cn) (g:Cn→Cn) (hid:∀ c,(g c).id=c.id) (x:Int):AI (l.map g) x=AI l x:=by
 unfold AI;rw [List.any_map]
 congr 1
 funext c
 simp [hid]
theorem WC (l:List Cn) (g:Cn→Cn) (hid:∀ c,(g c).id=c.id) (x:Int) (h:AI l x=true):AM (l.map g) x=g (AM l x):=by
 unfold AM;rw [List.find?_map];have e:((fun c:Cn=>decide (c.id=x)) ∘ g)=fun c=>decide (c.id=x):=by funext c;simp [hid]
 rw [e]
 cases hf:l.find? fun c=>decide (c.id=x) with
 | none =>
  obtain ⟨c,hc,e2⟩:=(DO l x).1 h;have:=List.find?_eq_none.1 hf c hc
  simp [e2] at this
 | some c=>rfl
theorem QM {b b':Bk} (g:Cn→Cn) (hc:b'.chans=b.chans.map g) (hid:∀ c,(g c).id=c.id) (x:Int):Fk b' x=if AI b.chans x=true then (g (AM b.chans x)).loc else 0:=by
 unfold Fk;rw [hc,V9 _ g hid];split
 ·rename_i h;rw [WC _ g hid x h]
 rfl
theorem Ez {q:Bool} {c:Int} {r:List (Bool × Int)} (h:A4 ((q,c) :: r)=0) (hc:c≠0):q=false∧A4 r=0:=by
 unfold A4 at h;split at h
 ·exact absurd h hc
 rename_i hq;exact ⟨by simpa using hq,h⟩
theorem K9 (ch:Int) (f:Cn→Cn) (hf:∀ c,(f c).id=c.id) (c:Cn):(if c.id=ch then f c else c).id=c.id:=by split;exact hf c;rfl
theorem Ya {b b':Bk} (h:Pk b) (g:Cn→Cn) (hid:∀ c,(g c).id=c.id) (h1:b'.htlcs=b.htlcs) (h2:b'.circles=b.circles) (h3:b'.chans=b.chans.map g):Pk b':=by
 have hk:A1 b'=A1 b:=by unfold A1;rw [h1,h2]
 refine ⟨by rw [h1];exact h.h60,by rw [h2];exact h.c20,fun x hx => ?_,fun x hx => ?_,by rw [hk];exact h.ks,by rw [hk];exact h.nd⟩
 ·rw [h3];rw [h1] at hx;exact Kq g hid (h.hs x hx)
 rw [h3];rw [h2] at hx;exact Je g hid (h.cs x hx)
theorem yG {b:Bk} {e:Ev} (h:Bok b) (h1:0≤e.amt) (h2:b.wallet+e.amt≤1125899906842624) (hk:e.kind=1):Stp b (Al b e).1 (Al b e).2:=by
 have hw:=h.wallet;unfold Am at hw;unfold Al;rw [if_pos hk];refine ⟨M0 h id h.tick ⟨A3,h2⟩ h.next sM (fun _=>rfl) (Ya h.pk id (fun _=>rfl) rfl rfl sM) fun c hc => ?_,?_,fun x => ?_,fun x => ?_,fun x => ?_,rfl⟩
 ·have hk:=h.ck c hc;exact ⟨rfl,hk.loc.1,hk.rem.1,hk.base,hk.ppm,hk.score,hk.sum⟩
 all_goals simp only [Gg]
 ·exact Cx
 ·show Fk b x=_;exact Cx
 ·exact NW
 exact Cx
theorem xo (l:List Cn) (c:Cn) (x:Int):AI (A6 l c) x=(decide (c.id=x) || AI l x):=by
 induction l with
 | nil=>simp [A6,AI]
 | cons y l ih =>
  unfold A6;split
  ·rfl
  unfold AI at ih ⊢;rw [List.any_cons,ih,List.any_cons];cases decide (y.id=x)<;>cases decide (c.id=x)<;>rfl
theorem J0 {l:List Cn} {c d:Cn}:d∈A6 l c↔d=c∨d∈l:=by
 induction l with
 | nil=>simp [A6]
 | cons y l ih =>
  unfold A6;split
  ·simp
  rw [List.mem_cons,ih,List.mem_cons];constructor
  ·exact ZM
  exact ZM
theorem Wq:∀ {l:List Cn} {c:Cn},Cv l→(∀ d∈l,d.id≠c.id)→Cv (A6 l c)
 | [],c,_,_=>List.pairwise_singleton _ _
 | y :: l,c,h,hn=>by
  obtain ⟨h1,h2⟩:=List.pairwise_cons.1 h;unfold A6;split
  ·rename_i hlt;refine List.pairwise_cons.2 ⟨fun d hd => ?_,h⟩;rcases List.mem_cons.1 hd with rfl | hd
   ·exact hlt
   have:=h1 d hd;omega
  rename_i hge;have hne:=hn y List.mem_cons_self;refine List.pairwise_cons.2 ⟨fun d hd => ?_,Wq h2 fun d hd=>hn d (List.mem_cons_of_mem _ hd)⟩;rcases J0.1 hd with rfl | hd
  ·omega
  exact h1 d hd
theorem uA (l:List Cn) (c:Cn):(A6 l c).length=l.length+1:=by
 induction l with
 | nil=>rfl
 | cons y l ih =>
  unfold A6;split
  ·rfl
  rw [List.length_cons,ih,List.length_cons]
theorem U1 {l:List Cn} {x:Int} (h:AI l x=false):∀ c∈l,c.id≠x:=fun c hc e=>by
 have:AI l x=true:=(DO l x).2 ⟨c,hc,e⟩
 rw [h] at this;cases this
theorem yQ {b:Bk} {e:Ev} (h:Bok b) (hch:1≤e.ch∧e.ch≤99) (h1:1≤e.amt) (h2:0≤e.fee) (h3:e.amt+e.fee≤1125899906842624) (hno:AI b.chans e.ch=false) (hn:b.chans.length<20) (hw2:e.amt≤b.wallet) (hk:e.kind=2):Stp b (Al b e).1 (Al b e).2:=by
 have hw:=h.wallet;unfold Am at hw;unfold Al;rw [if_neg oM,if_pos hk];have hid:=U1 hno;have hs:=Wq (c:=⟨e.ch,e.amt+e.fee,e.amt,e.fee,0,0,0⟩) h.so hid;have hap:∀ x y,Ap b.chans x y→Ap (A6 b.chans ⟨e.ch,e.amt+e.fee,e.amt,e.fee,0,0,0⟩) x y:=fun x y ⟨a1,⟨c,hc,e1⟩,⟨d,hd,e2⟩⟩=>⟨a1,⟨c,J0.2 (.inr hc),e1⟩,⟨d,J0.2 (.inr hd),e2⟩⟩;have hz:=h.pk.out_no hid;refine ⟨⟨h.tick,⟨A3,A3⟩,h.next,by simp only [uA];omega,⟨h.pk.h60,h.pk.c20,fun x hx => ?_,fun x hx => ?_,h.pk.ks,h.pk.nd⟩,fun c hc => ?_,hs⟩,?_,fun x => ?_,fun x => ?_,fun x => ?_,rfl⟩
 ·have q:=h.pk.hs x hx;exact ⟨q.ain,q.o1,q.o2,q.age,hap _ _ q.ap⟩
 ·have q:=h.pk.cs x hx;exact ⟨q.amt,q.a1,q.fee,hap _ _ q.ap⟩
 ·rcases J0.1 hc with rfl | hc
  ·unfold BJ BU at hz;refine ⟨hch,⟨A3,A3⟩,⟨h2,A3⟩,⟨AP,AP⟩,AP,AP,⟨A3,h3⟩,?_⟩;simp only [BJ,BU];omega
  have q:=h.ck c hc;exact ZN
 all_goals simp only [Gg]
 ·simp [A9];omega
 ·unfold Fk;simp only [xo];by_cases hx:e.ch=x
  ·subst hx;have hm:(⟨e.ch,e.amt+e.fee,e.amt,e.fee,0,0,0⟩:Cn)∈A6 b.chans ⟨e.ch,e.amt+e.fee,e.amt,e.fee,0,0,0⟩:=J0.2 (.inl rfl);have hg:=Me hs hm;simp only at hg;rw [hno,hg];exact Cx
  rw [decide_eq_false hx,Bool.false_or];by_cases hh:AI b.chans x=true;rotate_left
  ·rw [if_neg hh,if_neg hh];simp [A9,hx]
  rw [if_pos hh,if_pos hh];obtain ⟨m1,m2⟩:=Ei hh;have hg:=Me hs (J0.2 (.inr m1):AM b.chans x∈A6 b.chans ⟨e.ch,e.amt+e.fee,e.amt,e.fee,0,0,0⟩);rw [m2] at hg;rw [hg];simp [A9,hx]
 ·exact NW
 exact Cx
theorem A2B {b:Bk} {e:Ev} (h:Bok b) (h1:Am e.amt) (h2:0≤e.fee∧e.fee≤1000000) (hk:e.kind=4):Stp b (Al b e).1 (Al b e).2:=by
 unfold Al;rw [if_neg oM,if_neg oM,if_neg oM,if_pos hk];have hid:=K9 e.ch (fun c=>{c with base:=e.amt,ppm:=e.fee}) (fun _=>rfl);refine ⟨M0 h (fun c=>if c.id=e.ch then {c with base:=e.amt,ppm:=e.fee} else c) h.tick h.wallet h.next rfl hid (Ya h.pk _ hid rfl rfl rfl) fun c hc => ?_,?_,fun x => ?_,fun x => ?_,fun x=>rfl,rfl⟩
 ·have hk:=h.ck c hc;have hs:=hk.sum;show _∧_∧_∧_∧_∧_∧c.size=_+_+BJ b c.id+BU b c.id;split
  ·exact ⟨rfl,hk.loc.1,hk.rem.1,h1,h2,hk.score,hs⟩
  exact ⟨rfl,hk.loc.1,hk.rem.1,hk.base,hk.ppm,hk.score,hs⟩
 ·exact Cx
 ·rw [QM (b:=b) _ rfl hid];unfold Fk;split
  ·split<;>simp [A9]
  exact Cx
 exact NW
theorem vt {b:Bk} {e:Ev} (h:Bok b) (h1:b.tick<1125899906842624) (hk:e.kind=8):Stp b (Al b e).1 (Al b e).2:=by
 unfold Al;rw [if_neg oM,if_neg oM,if_neg oM,if_neg oM,if_neg oM,if_neg oM,if_neg oM,if_pos hk]
 obtain ⟨g,hg,hid,hgl⟩:∃ g:Cn→Cn,(if (b.tick+1) % 5=0 then b.chans.map Ef else b.chans)=b.chans.map g∧(∀ c,(g c).id=c.id)∧∀ c,(g c).size=c.size∧(g c).loc=c.loc∧(g c).rem=c.rem∧(g c).base=c.base∧(g c).ppm=c.ppm∧((-100≤c.score∧c.score≤100) → -100≤(g c).score∧(g c).score≤100):=by
  by_cases h5:(b.tick+1) % 5=0;rotate_left
  ·rw [if_neg h5];exact ⟨id,AP,fun c=>rfl,fun c=>⟨rfl,rfl,rfl,rfl,rfl,fun hs=>hs⟩⟩
  rw [if_pos h5];refine ⟨Ef,rfl,fun c=>rfl,fun c=>⟨rfl,rfl,rfl,rfl,rfl,fun hs => ?_⟩⟩;show -100≤DR c.score∧DR c.score≤100;unfold DR BI Ad;rw [decide_eq_true hs];simp only [if_true];split
  ·omega
  split<;>omega
 rw [hg]
 have ho:∀ x,((b.htlcs.map Bw).map (BS x)).sum=(b.htlcs.map (BS x)).sum∧((b.htlcs.map Bw).map (Bb x)).sum=(b.htlcs.map (Bb x)).sum:=fun x=>by
  rw [List.map_map,List.map_map];exact EI
 have hkeys:(b.htlcs.map Bw).map (·.key)=b.htlcs.map (·.key):=by rw [List.map_map];rfl
 have hkb:A1 {b with tick:=b.tick+1,htlcs:=b.htlcs.map Bw,chans:=b.chans.map g}=A1 b:=by unfold A1;rw [hkeys]
 have ht:=h.tick;unfold Am at ht;have hO:∀ x,BJ {b with tick:=b.tick+1,htlcs:=b.htlcs.map Bw,chans:=b.chans.map g} x=BJ b x∧BU {b with tick:=b.tick+1,htlcs:=b.htlcs.map Bw,chans:=b.chans.map g} x=BU b x:=fun x=>by unfold BJ BU;simp only [(ho x).1,(ho x).2];exact ⟨trivial,trivial⟩
 refine ⟨M0 h g ⟨A3,A3⟩ h.wallet h.next rfl hid ⟨by simp only [List.length_map];exact h.pk.h60,h.pk.c20,fun x hx => ?_,fun x hx=>Je g hid (h.pk.cs x hx),by rw [hkb];exact h.pk.ks,by rw [hkb];exact h.pk.nd⟩ fun c hc => ?_,?_,fun x => ?_,fun x => ?_,fun x=>rfl,rfl⟩
 ·obtain ⟨y,hy,rfl⟩:=List.mem_map.1 hx;have q:=h.pk.hs y hy;have qa:=q.age;unfold Am at qa;exact ⟨q.ain,q.o1,q.o2,⟨by show 0≤min (y.age+1) _;omega,by show min (y.age+1) _≤_;omega⟩,Kv g hid q.ap⟩
 ·have hk:=h.ck c hc;obtain ⟨g1,g2,g3,g4,g5,g6⟩:=hgl c;rw [(hO c.id).1,(hO c.id).2,g1,g2,g3,g4,g5];exact ⟨rfl,hk.loc.1,hk.rem.1,hk.base,hk.ppm,g6 hk.score,hk.sum⟩
 ·exact Cx
 ·rw [QM (b:=b) g rfl hid,(hgl _).2.1];unfold Fk;exact Cx
 rw [(hO x).1];exact Cx
def mv (p a1 r1 q a2 r2:Int) (sc:Int→Int) (c:Cn):Cn :=
 {c with loc:=c.loc+(if c.id=p then a1 else 0)+(if c.id=q then a2 else 0),rem:=c.rem+(if c.id=p then r1 else 0)+(if c.id=q then r2 else 0),score:=if c.id=p then sc c.score else c.score}
theorem GX (l:List Cn) (p a1 r1 q a2 r2:Int):AU (AU l p (AO a1 r1)) q (AO a2 r2)=l.map (mv p a1 r1 q a2 r2 id):=by
 unfold AU;rw [List.map_map];refine List.map_congr_left fun c hc => ?_;simp only [Function.comp_apply,mv,AO];by_cases h1:c.id=p<;>by_cases h2:c.id=q<;>simp [h1,h2]<;>(try (split<;>simp_all))
theorem My (l:List Cn) (p a1 r1 q a2 r2:Int) (sc:Int→Int):AU (AU (AU l p (AO a1 r1)) q (AO a2 r2)) p (fun c=>{c with score:=sc c.score})=l.map (mv p a1 r1 q a2 r2 sc):=by
 rw [GX];unfold AU;rw [List.map_map];refine List.map_congr_left fun c hc => ?_;simp only [Function.comp_apply,mv,id];by_cases h1:c.id=p<;>simp [h1]
theorem LM {b b':Bk} {ls:List Ln} {p a1 r1 q a2 r2:Int} {sc:Int→Int} (h:Bok b) (ht:b'.tick=b.tick) (hw:b'.wallet=b.wallet) (hn:b'.next=b.next) (hc:b'.chans=b.chans.map (mv p a1 r1 q a2 r2 sc)) (hp:Pk b') (hpq:Ap b.chans p q)
 (dO dI:Int→Int) (hO:∀ x,BJ b' x=BJ b x+dO x) (hI:∀ x,BU b' x=BU b x+dI x) (hz:∀ x,(if x=p then a1 else 0)+(if x=q then a2 else 0)+(if x=p then r1 else 0)+(if x=q then r2 else 0)+dO x+dI x=0)
 (n1:0≤(AM b.chans p).loc+a1) (n2:0≤(AM b.chans p).rem+r1) (n3:0≤(AM b.chans q).loc+a2) (n4:0≤(AM b.chans q).rem+r2) (hsc:∀ n,-100≤n∧n≤100 → -100≤sc n∧sc n≤100)
 (l1:A9 ls 1 0=0) (l6:∀ x,A9 ls 6 x=(if x=p then a1 else 0)+(if x=q then a2 else 0)) (l8:∀ x,A9 ls 8 x=dO x) (l7:∀ x,A9 ls 7 x=0):Stp b b' ls:=by
 have hne:=hpq.1
 refine ⟨M0 h _ (by rw [ht];exact h.tick) (by rw [hw];exact h.wallet) (by rw [hn];exact h.next) hc (fun c=>rfl) hp fun c hcm => ?_,by rw [hw,l1];omega,fun x => ?_,fun x=>by rw [hO,l8],l7,hn⟩
 ·have hk:=h.ck c hcm;have hg:=Me h.so hcm;have hs:=hk.sum;have k1:=hk.loc.1;have k2:=hk.rem.1;have hzz:=hz c.id;have o:=hO c.id;have i:=hI c.id;refine ⟨rfl,?_,?_,hk.base,hk.ppm,?_,?_⟩
  ·show 0≤c.loc+_+_;by_cases e1:c.id=p
   ·rw [if_pos e1,if_neg oM];rw [← e1,hg] at n1;omega
   rw [if_neg e1];by_cases e2:c.id=q
   ·rw [if_pos e2];rw [← e2,hg] at n3;omega
   rw [if_neg e2];omega
  ·show 0≤c.rem+_+_;by_cases e1:c.id=p
   ·rw [if_pos e1,if_neg oM];rw [← e1,hg] at n2;omega
   rw [if_neg e1];by_cases e2:c.id=q
   ·rw [if_pos e2];rw [← e2,hg] at n4;omega
   rw [if_neg e2];omega
  ·show -100≤(if c.id=p then sc c.score else c.score)∧(if c.id=p then sc c.score else c.score)≤100;split
   ·exact hsc _ hk.score
   exact hk.score
  show c.size=(c.loc+_+_)+(c.rem+_+_)+BJ b' c.id+BU b' c.id;omega
 rw [QM (b:=b) _ hc (fun c=>rfl),l6]
 unfold Fk
 by_cases hx:AI b.chans x=true
 ·rw [if_pos hx,if_pos hx];show (AM b.chans x).loc+_+_=_;rw [(Ei hx).2];omega
 rw [if_neg hx,if_neg hx]
 have h1:x≠p:=fun e=>hx ((DO _ _).2 (by rw [e];exact hpq.2.1))
 have h2:x≠q:=fun e=>hx ((DO _ _).2 (by rw [e];exact hpq.2.2))
 rw [if_neg h1,if_neg h2]
 omega
theorem Vu {l:List Cn} {x y:Int} (h1:x≠y) (h2:AI l x=true) (h3:AI l y=true):Ap l x y:=⟨h1,(DO _ _).1 h2,(DO _ _).1 h3⟩
theorem GZ (p a1 r1 q a2 r2:Int) (sc:Int→Int) (c:Cn):(mv p a1 r1 q a2 r2 sc c).id=c.id:=rfl
theorem NI {α:Type} (f:α→Int) (l:List α) (x:α):((l ++ [x]).map f).sum=(l.map f).sum+f x:=AP
theorem A07 {b:Bk} {e:Ev} (h:Bok b) (hkey:1≤e.key∧e.key≤1000000) (hne:e.ch≠e.tw) (ham:1≤e.amt) (hk1:Aw b e.key=false) (hk2:Ay b e.key=false) (hc1:AI b.chans e.ch=true) (hc2:AI b.chans e.tw=true) (h60:b.htlcs.length<60)
 (hs:Ea b e≤1125899906842624) (hs2:e.amt≤Ea b e) (hr:Ea b e≤(AM b.chans e.ch).rem) (hl:e.amt≤(AM b.chans e.tw).loc) (hk:e.kind=5):Stp b (Al b e).1 (Al b e).2:=by
 unfold Al
 rw [if_neg oM,if_neg oM,if_neg oM,if_neg oM,if_pos hk]
 have hap:=Vu hne hc1 hc2
 have q1:=(h.ck _ (Ei hc1).1)
 have q2:=(h.ck _ (Ei hc2).1)
 have a1:=q1.loc.1
 have a2:=q2.rem.1
 refine LM h rfl rfl rfl (GX _ _ _ _ _ _ _) ?_ hap (fun x=>if e.tw=x then e.amt else 0) (fun x=>if e.ch=x then Ea b e else 0) (fun x => ?_) (fun x => ?_) (fun x => ?_) oM oM oM oM (fun n hn=>hn) ?_ (fun x => ?_) (fun x => ?_) (fun x => ?_)
 ·have hkb:∀ k,k∈b.htlcs.map (·.key) ++ [e.key] ++ b.circles.map (·.key)→k=e.key∨k∈A1 b:=fun k hk=>by
   unfold A1;simp only [List.mem_append,List.mem_singleton] at hk ⊢;rcases hk with (hk | hk) | hk
   ·exact .inr (.inl hk)
   ·exact .inl hk
   exact .inr (.inr hk)
  refine ⟨ZO,h.pk.c20,fun x hx => ?_,fun x hx => ?_,fun k hk => ?_,?_⟩
  ·simp only [GX];rcases List.mem_append.1 hx with hx | hx
   ·exact Kq _ (GZ _ _ _ _ _ _ _) (h.pk.hs x hx)
   simp only [List.mem_singleton] at hx;subst hx;exact ⟨⟨A3,hs⟩,ham,hs2,⟨AP,AP⟩,Kv _ (GZ _ _ _ _ _ _ _) hap⟩
  ·simp only [GX];exact Je _ (GZ _ _ _ _ _ _ _) (h.pk.cs x hx)
  ·unfold A1 at hk;simp only [List.map_append,List.map_cons,List.map_nil] at hk;rcases hkb k hk with rfl | hk
   ·exact hkey
   exact h.pk.ks k hk
  have hnd:=h.pk.nd;unfold A1 at hnd ⊢;simp only [List.map_append,List.map_cons,List.map_nil];obtain ⟨m1,m2,m3⟩:=List.nodup_append.1 hnd;have k1:=WS hk1;have k2:=U5 hk2;refine List.nodup_append.2 ⟨List.nodup_append.2 ⟨m1,List.nodup_cons.2 ⟨AP,List.nodup_nil⟩,?_⟩,m2,?_⟩
  ·intro x hx y hy e1;simp at hy;subst hy;subst e1;exact k1 hx
  intro x hx y hy e1;subst e1;rcases List.mem_append.1 hx with hx | hx
  ·exact m3 x hx x hy rfl
  simp at hx;subst hx;exact k2 hy
 ·unfold BJ;simp only [NI];simp only [BS];omega
 ·unfold BU;simp only [NI];simp only [Bb];omega
 ·by_cases e1:x=e.ch
  ·exact ZP
  by_cases e2:x=e.tw
  ·exact ZQ
  exact NY
 all_goals simp only [Gg]
 ·exact Cx
 ·simp [A9,eq_comm]
 ·exact Cx
 simp [A9]
theorem vQ {b:Bk} {e:Ev} (h:Bok b) (hkey:1≤e.key∧e.key≤1000000) (hne:e.ch≠e.tw) (ham:1≤e.amt) (hfee:0≤e.fee) (hk1:Aw b e.key=false) (hk2:Ay b e.key=false) (hc1:AI b.chans e.ch=true) (hc2:AI b.chans e.tw=true) (h20:b.circles.length<20)
 (hs:e.amt+e.fee≤1125899906842624) (hr:e.amt+e.fee≤(AM b.chans e.ch).loc) (hl:e.amt≤(AM b.chans e.tw).rem) (hk:e.kind=9):Stp b (Al b e).1 (Al b e).2:=by
 unfold Al
 rw [if_neg oM,if_neg oM,if_neg oM,if_neg oM,if_neg oM,if_neg oM,if_neg oM,if_neg oM,if_pos hk]
 have hap:=Vu hne hc1 hc2
 have q1:=(h.ck _ (Ei hc1).1)
 have q2:=(h.ck _ (Ei hc2).1)
 have a1:=q1.rem.1
 have a2:=q2.loc.1
 refine LM h rfl rfl rfl (GX _ _ _ _ _ _ _) ?_ hap (fun x=>if e.ch=x then e.amt+e.fee else 0) (fun x=>if e.tw=x then e.amt else 0) (fun x => ?_) (fun x => ?_) (fun x => ?_) oM oM oM oM (fun n hn=>hn) ?_ (fun x => ?_) (fun x => ?_) (fun x => ?_)
 ·refine ⟨h.pk.h60,ZO,fun x hx => ?_,fun x hx => ?_,fun k hk => ?_,?_⟩
  ·simp only [GX];exact Kq _ (GZ _ _ _ _ _ _ _) (h.pk.hs x hx)
  ·simp only [GX];rcases List.mem_append.1 hx with hx | hx
   ·exact Je _ (GZ _ _ _ _ _ _ _) (h.pk.cs x hx)
   simp only [List.mem_singleton] at hx;subst hx;exact ⟨⟨A3,A3⟩,ham,⟨hfee,A3⟩,Kv _ (GZ _ _ _ _ _ _ _) hap⟩
  ·unfold A1 at hk;simp only [List.map_append,List.map_cons,List.map_nil] at hk;rw [← List.append_assoc] at hk;rcases List.mem_append.1 hk with hk | hk
   ·exact h.pk.ks k hk
   simp at hk;subst hk;exact hkey
  have hnd:=h.pk.nd;unfold A1 at hnd ⊢;simp only [List.map_append,List.map_cons,List.map_nil];rw [← List.append_assoc];refine List.nodup_append.2 ⟨hnd,List.nodup_cons.2 ⟨AP,List.nodup_nil⟩,?_⟩;intro x hx y hy e1;simp at hy;subst hy;subst e1;rcases List.mem_append.1 hx with hx | hx
  ·exact WS hk1 hx
  exact U5 hk2 hx
 ·unfold BJ;simp only [NI];simp only [CY];omega
 ·unfold BU;simp only [NI];simp only [Bu];omega
 ·by_cases e1:x=e.ch
  ·exact ZR
  by_cases e2:x=e.tw
  ·exact ZS
  exact NY
 all_goals simp only [Gg]
 ·exact Cx
 ·simp [A9,eq_comm]
 ·exact Cx
 simp [A9]
theorem YO {b b':Bk} (h:Pk b) (k:Int) (g:Cn→Cn) (hid:∀ c,(g c).id=c.id) (h1:b'.htlcs=b.htlcs.filter fun x => !decide (x.key=k)) (h2:b'.circles=b.circles) (h3:b'.chans=b.chans.map g):Pk b':=by
 have hsub:(A1 b').Sublist (A1 b):=by
  unfold A1;rw [h1,h2];exact List.Sublist.append (List.Sublist.map _ List.filter_sublist) (List.Sublist.refl _)
 refine ⟨?_,by rw [h2];exact h.c20,fun x hx => ?_,fun x hx => ?_,fun k hk=>h.ks k (hsub.subset hk),h.nd.sublist hsub⟩
 ·rw [h1];exact Nat.le_trans (List.length_filter_le _ _) h.h60
 ·rw [h3];rw [h1] at hx;exact Kq g hid (h.hs x (List.mem_filter.1 hx).1)
 rw [h3];rw [h2] at hx;exact Je g hid (h.cs x hx)
theorem A1G {b b':Bk} (h:Pk b) (k:Int) (g:Cn→Cn) (hid:∀ c,(g c).id=c.id) (h1:b'.circles=b.circles.filter fun x => !decide (x.key=k)) (h2:b'.htlcs=b.htlcs) (h3:b'.chans=b.chans.map g):Pk b':=by
 have hsub:(A1 b').Sublist (A1 b):=by
  unfold A1;rw [h1,h2];exact List.Sublist.append (List.Sublist.refl _) (List.Sublist.map _ List.filter_sublist)
 refine ⟨by rw [h2];exact h.h60,?_,fun x hx => ?_,fun x hx => ?_,fun k hk=>h.ks k (hsub.subset hk),h.nd.sublist hsub⟩
 ·rw [h1];exact Nat.le_trans (List.length_filter_le _ _) h.c20
 ·rw [h3];rw [h2] at hx;exact Kq g hid (h.hs x hx)
 rw [h3];rw [h1] at hx;exact Je g hid (h.cs x (List.mem_filter.1 hx).1)
theorem Yj (n:Int) (h : -100≤n∧n≤100) : -100≤Co n∧Co n≤100:=by
 unfold Co BI Ad;rw [decide_eq_true h];simp only [if_true];omega
theorem Xc (n:Int) (h : -100≤n∧n≤100) : -100≤Ch n∧Ch n≤100:=by
 unfold Ch BI Ad;rw [decide_eq_true h];simp only [if_true];omega
theorem WM {b:Bk} {e:Ev} (h:Bok b) (hh:Aw b e.key=true) (hk:e.kind=6∨e.kind=7):Stp b (Al b e).1 (Al b e).2:=by
 obtain ⟨m1,m2⟩:=zR hh;have q:=h.pk.hs _ m1;have hap:=q.ap;have hc1:AI b.chans (Ac b e.key).inn=true:=(DO _ _).2 hap.2.1;have hc2:AI b.chans (Ac b e.key).out=true:=(DO _ _).2 hap.2.2;have A2t:=trivial;exact ZT
theorem WB {b:Bk} {e:Ev} (h:Bok b) (hh:Ay b e.key=true) (hk:e.kind=10∨e.kind=11):Stp b (Al b e).1 (Al b e).2:=by
 obtain ⟨m1,m2⟩:=wW hh;have q:=h.pk.cs _ m1;have hap:=q.ap;have hc1:AI b.chans (AW b e.key).frm=true:=(DO _ _).2 hap.2.1;have hc2:AI b.chans (AW b e.key).tw=true:=(DO _ _).2 hap.2.2;exact ZT
theorem A2D (l:List Cn) (ch x:Int):AI (l.filter fun c => !decide (c.id=ch)) x=(!decide (x=ch) && AI l x):=by
 rw [Bool.eq_iff_iff,Bool.and_eq_true,DO,DO];constructor
 ·rintro ⟨c,hc,e⟩;obtain ⟨h1,h2⟩:=List.mem_filter.1 hc;refine ⟨?_,c,h1,e⟩;subst e;exact h2
 rintro ⟨h1,c,hc,e⟩;refine ⟨c,List.mem_filter.2 ⟨hc,?_⟩,e⟩;subst e;exact h1
theorem tT {b:Bk} {e:Ev} (h:Bok b) (hfee:0≤e.fee) (hc:AI b.chans e.ch=true) (hu:DH b e.ch=false) (hf:e.fee≤(AM b.chans e.ch).loc) (hw:b.wallet+(AM b.chans e.ch).loc - e.fee≤1125899906842624) (hk:e.kind=3):Stp b (Al b e).1 (Al b e).2:=by
 have hw0:=h.wallet;unfold Am at hw0;unfold Al;rw [if_neg oM,if_neg oM,if_pos hk];unfold DH at hu;rw [Bool.or_eq_false_iff] at hu
 have u1:∀ x∈b.htlcs,x.inn≠e.ch∧x.out≠e.ch:=fun x hx=>by
  have:=List.any_eq_false.1 hu.1 x hx
  simp at this;exact this
 have u2:∀ x∈b.circles,x.frm≠e.ch∧x.tw≠e.ch:=fun x hx=>by
  have:=List.any_eq_false.1 hu.2 x hx
  simp at this;exact this
 have hap:∀ x y,x≠e.ch→y≠e.ch→Ap b.chans x y→Ap (b.chans.filter fun c => !decide (c.id=e.ch)) x y:=fun x y hx hy ⟨a1,⟨c,hc,e1⟩,⟨d,hd,e2⟩⟩ =>
  ⟨a1,⟨c,List.mem_filter.2 ⟨hc,by rw [e1];simp [hx]⟩,e1⟩,⟨d,List.mem_filter.2 ⟨hd,by rw [e2];simp [hy]⟩,e2⟩⟩
 have hso:Cv (b.chans.filter fun c => !decide (c.id=e.ch)):=List.Pairwise.filter _ h.so;refine ⟨⟨h.tick,⟨A3,hw⟩,h.next,Nat.le_trans (List.length_filter_le _ _) h.n20,⟨h.pk.h60,h.pk.c20,fun x hx => ?_,fun x hx => ?_,h.pk.ks,h.pk.nd⟩,fun c hc => ?_,hso⟩,?_,fun x => ?_,fun x => ?_,fun x => ?_,rfl⟩
 ·have q:=h.pk.hs x hx;exact ⟨q.ain,q.o1,q.o2,q.age,hap _ _ (u1 x hx).1 (u1 x hx).2 q.ap⟩
 ·have q:=h.pk.cs x hx;exact ⟨q.amt,q.a1,q.fee,hap _ _ (u2 x hx).1 (u2 x hx).2 q.ap⟩
 ·have q:=h.ck c (List.mem_filter.1 hc).1;exact ZN
 all_goals simp only [Gg]
 ·simp [A9];omega
 ·unfold Fk;simp only [A2D];by_cases hx:x=e.ch
  ·subst hx;rw [hc];simp [A9];omega
  rw [decide_eq_false hx,Bool.not_false,Bool.true_and];have hx2:¬ e.ch=x:=fun e1=>hx e1.symm;by_cases hh:AI b.chans x=true;rotate_left
  ·rw [if_neg hh,if_neg hh];simp [A9,hx2]
  rw [if_pos hh,if_pos hh];obtain ⟨m1,m2⟩:=Ei hh;have hg:=Me hso (List.mem_filter.2 ⟨m1,by rw [m2];simp [hx]⟩:AM b.chans x∈b.chans.filter fun c => !decide (c.id=e.ch));rw [m2] at hg;rw [hg];simp [A9,hx2]
 ·exact NW
 exact Cx
theorem Wz {b:Bk} {e:Ev} (h:Bok b) (hg:e.good=true) (hc:AQ b e=0):Stp b (Al b e).1 (Al b e).2∧b.next<1125899906842624:=by
 obtain ⟨k,key,ch,too,amt,fee,yes⟩:=e;unfold Ev.good at hg;have hk:=Ma hg;simp only at hg hk;unfold AQ at hc;simp only at hc;obtain ⟨hn,hc⟩:=Ez hc oM;have hn:=of_decide_eq_false hn;have hb:=h.next;refine ⟨?_,AA⟩;have hw:=h.wallet;unfold Am at hw;have A2u:=trivial;exact ZV
structure Agr (b:Bk) (l:Lg):Prop where
 bok:Bok b
 lok:Bq l=true
 last:l.last=b.next - 1
 wal:A9 l.lines 1 0=b.wallet
 loc:∀ x,A9 l.lines 6 x=Fk b x
 out:∀ x,A9 l.lines 8 x=BJ b x
 in7:∀ x,A9 l.lines 7 x=0
theorem vL {b:Bk} (h:Bok b) (n:Int) (hn:1≤n∧n≤1125899906842624):Bok {b with next:=n} :=
 ⟨h.tick,h.wallet,hn,h.n20,⟨h.pk.h60,h.pk.c20,h.pk.hs,h.pk.cs,h.pk.ks,h.pk.nd⟩,fun c hc=>by have q:=h.ck c hc;exact ⟨q.id,q.loc,q.rem,q.base,q.ppm,q.score,q.size,q.sum⟩,h.so⟩
theorem Xz {b:Bk} {e:Ev} (h:(Aq b e).1=0):Bok b∧e.good=true∧AQ b e=0:=by
 unfold Aq at h;split at h
 ·cases h
 rename_i h1;have h1:Ak b=true∧e.good=true:=LU;split at h
 ·rename_i h2;exact absurd h h2
 rename_i h2;exact ⟨(Gc b).1 h1.1,h1.2,NZ⟩
theorem yP {b:Bk} {e:Ev} (h:(Aq b e).1=0):Aq b e=if (Al b e).2 = [] then (0,(Al b e).1,Po.zero) else (0,{(Al b e).1 with next:=b.next+1},⟨b.next,(Al b e).2⟩):=by
 obtain ⟨h1,h2,h3⟩:=Xz h;have h1:=(Gc b).2 h1;unfold Aq;rw [if_neg (by rw [h1,h2];simp),if_neg (by rw [h3];simp)]
theorem zI {b:Bk} {e:Ev} (h:(Aq b e).1=0):Bok (Aq b e).2.1:=by
 obtain ⟨h1,h2,h3⟩:=Xz h;obtain ⟨hs,hn⟩:=Wz h1 h2 h3;have hb:=h1.next;rw [yP h];split
 ·exact hs.bok
 exact vL hs.bok _ oM
theorem Qn:Bok Bk.new:=⟨⟨FG,FG⟩,⟨FG,FG⟩,FG,FG,⟨FG,FG,by simp [Bk.new],by simp [Bk.new],by simp [Bk.new,A1],by simp [Bk.new,A1]⟩,by simp [Bk.new],List.Pairwise.nil⟩
def QQ (ps:List Po):Lg × Int:=ps.foldl (fun s p=>if (BV s.1 p).1=0 then ((BV s.1 p).2,s.2+1) else s) (Lg.zero,0)
def Iu (l:List Int):Bool:=l.all fun c=>decide (c=0)
structure InvA (s:Aa):Prop where
 agr:Iu s.codes=true→(QQ s.ps).2=(s.ps.length:Int)→Agr s.book (QQ s.ps).1
 le:(QQ s.ps).2≤(s.ps.length:Int)
 bok:Bok s.book
theorem Wm (es:List Ev):Bo Bk.new es=es.foldl Cw ⟨Bk.new,[],[]⟩:=by unfold Bo;rw [if_neg (by rw [(Gc _).2 Qn];simp)]
structure Dok (d:Dk):Prop where
 n:1≤d.cells.length∧d.cells.length≤600
 m:d.dirty.length≤600
 c:∀ x∈d.cells,x.length=0∨x.length=128
 w:∀ w∈d.dirty,(0≤w.at_∧w.at_<(d.cells.length:Int))∧w.bytes.length=128
section
section
open Classical
noncomputable def DY (w:Wd):Bool:=if w.up=true then Bd w.hub && decide (w.disk=Dk.zero) && decide (Av w.hub.log.disk=w.took) else decide (w.hub=Hb.zero) && BO w.disk && decide (w.disk.dirty = [])
noncomputable def G8 (w:Wd):Int:=if (DY w && w.up)=true then Bj w.hub.ledger 3 0+Bj w.hub.ledger 4 0 else 0
end
structure TopH (h:Hb) (took sent:List Ev):Prop where
 dok:Dok h.log.disk
 n0:0≤h.log.next∧h.log.next≤(h.log.disk.cells.length:Int)
 ep:1≤h.log.epoch∧h.log.epoch≤16000000
 nx:((BQ h.log.disk).length:Int)=h.log.next
 rp:BB took=⟨h.book,h.ledger,true⟩
 tk:Av h.log.disk=took
 sw:sent ++ h.wait=took
 hs:h.sent <:+ sent
 e1:∀ i,i<h.log.disk.cells.length→Ug h.log.disk i≤h.log.epoch
 e2:∀ i,i<h.log.disk.cells.length→h.log.next≤(i:Int)→Ug h.log.disk i<h.log.epoch
end
section
abbrev Bz:=VS Cn.enc 7 Cn.ok
abbrev DC:=VS Ht.enc 7 Ht.ok
abbrev DA:=VS Ci.enc 5 Ci.ok
abbrev Bf:=VS Ev.enc 7 Ev.ok
structure BkV (w:World) (B:Nat) (x y z:Value) (b:Bk):Prop where
 chans:Bz w B x b.chans
 htlcs:DC w B y b.htlcs
 circles:DA w B z b.circles
 ints:AE b.tick∧AE b.next∧AE b.wallet
structure LgV (w:World) (B:Nat) (v:Value) (l:Lg):Prop where
 lines:BE w B v l.lines
 int:AE l.last
structure LoV (w:World) (B:Nat) (c d:Value) (l:Lo):Prop where
 disk:DkV w B c d l.disk
 ints:AE l.next∧AE l.epoch
structure HbV (w:World) (B:Nat) (c d x y z l p q:Value) (h:Hb):Prop where
 log:LoV w B c d h.log
 book:BkV w B x y z h.book
 ledger:LgV w B l h.ledger
 wait:Bf w B p h.wait
 sent:Bf w B q h.sent
structure WdV (w:World) (B:Nat) (c d x y z l p q c2 d2 t s k:Value) (W:Wd):Prop where
 hub:HbV w B c d x y z l p q W.hub
 disk:DkV w B c2 d2 W.disk
 took:Bf w B t W.took
 sent:Bf w B s W.sent
 codes:Cm w B k W.codes
theorem BkV.keep {w w':World} {x y z:Value} {m:Bk} (h:BkV w w x y z m) (hb:Below w w w'):BkV w' w' x y z m:=⟨h.chans.keep hb,h.htlcs.keep hb,h.circles.keep hb,h.ints⟩
theorem LgV.keep {w w':World} {v:Value} {m:Lg} (h:LgV w w v m) (hb:Below w w w'):LgV w' w' v m:=⟨h.lines.keep hb,h.int⟩
theorem LoV.keep {w w':World} {c d:Value} {m:Lo} (h:LoV w w c d m) (hb:Below w w w'):LoV w' w' c d m:=⟨h.disk.keep hb,h.ints⟩
theorem HbV.keep {w w':World} {c d x y z l p q:Value} {m:Hb} (h:HbV w w c d x y z l p q m) (hb:Below w w w'):HbV w' w' c d x y z l p q m:=⟨h.log.keep hb,h.book.keep hb,h.ledger.keep hb,h.wait.keep hb,h.sent.keep hb⟩
theorem WdV.keep {w w':World} {c d x y z l p q c2 d2 t s k:Value} {m:Wd} (h:WdV w w c d x y z l p q c2 d2 t s k m) (hb:Below w w w'):WdV w' w' c d x y z l p q c2 d2 t s k m:=⟨h.hub.keep hb,h.disk.keep hb,h.took.keep hb,h.sent.keep hb,h.codes.keep hb⟩
def Jl (d:Dk):Prop:=(d.cells.length≤1048576∧∀ x∈d.cells,(id x).length≤1048576)∧(d.dirty.length≤1048576∧∀ x∈d.dirty,x.bytes.length≤1048576)
def Qk (b:Bk):Prop:=b.chans.length≤1048576∧b.htlcs.length≤1048576∧b.circles.length≤1048576
def Qe (l:Lg):Prop:=l.lines.length≤1048576
def Kk (h:Hb):Prop:=Jl h.log.disk∧Qk h.book∧Qe h.ledger∧h.wait.length≤1048576∧h.sent.length≤1048576
def Jp (W:Wd):Prop:=Kk W.hub∧Jl W.disk∧W.took.length≤1048576∧W.sent.length≤1048576∧W.codes.length≤1048576
theorem A1F (v:Value) (xs:List Cn) (m:Int) (w:World) (V0:Bz w w v xs) (h0:0≤m) (h1:m≤1048576):Calls Tryz.prog 144 #[v,m] w fun e w'=>(∃ r:Int,e = .returned r∧(r = -1∨(0≤r∧r≤m∧xs.length≤1048576)))∧w=w':=by
 obtain ⟨a,len,cap,rfl,-,-,hs⟩:=V0;refine (A0N a len cap m w hs.lenB h0 h1).mono ?_;exact KA
theorem A0F (v:Value) (xs:List Cn) (w:World) (V0:Bz w w v xs) (hlen:xs.length≤1048576):Calls Tryz.prog 165 #[v] w fun e w'=>(∃ u,e = .returned u∧AC Cn.enc 7 182 w' w u xs)∧Below w w w':=by
 obtain ⟨a,len,cap,rfl,-,-,hs⟩:=V0;have hx:=hs.1;refine (tb a len cap xs w hs oM).mono ?_;exact LW
theorem yU (v v':Value) (xs:List Cn) (w:World) (V0:Bz w w v xs) (V1:Bz w w v' xs):Calls Tryz.prog 186 #[v,v'] w fun e w'=>e = .returned true∧Below w w w':=by
 have A25:=trivial;exact KB
theorem A2S (v:Value) (xs:List Ht) (m:Int) (w:World) (V0:DC w w v xs) (h0:0≤m) (h1:m≤1048576):Calls Tryz.prog 145 #[v,m] w fun e w'=>(∃ r:Int,e = .returned r∧(r = -1∨(0≤r∧r≤m∧xs.length≤1048576)))∧w=w':=by
 obtain ⟨a,len,cap,rfl,-,-,hs⟩:=V0;refine (wB a len cap m w hs.lenB h0 h1).mono ?_;exact KA
theorem vH (v:Value) (xs:List Ht) (w:World) (V0:DC w w v xs) (hlen:xs.length≤1048576):Calls Tryz.prog 166 #[v] w fun e w'=>(∃ u,e = .returned u∧AC Ht.enc 7 184 w' w u xs)∧Below w w w':=by
 obtain ⟨a,len,cap,rfl,-,-,hs⟩:=V0;have hx:=hs.1;refine (xS a len cap xs w hs oM).mono ?_;exact LW
theorem uN (v v':Value) (xs:List Ht) (w:World) (V0:DC w w v xs) (V1:DC w w v' xs):Calls Tryz.prog 187 #[v,v'] w fun e w'=>e = .returned true∧Below w w w':=by
 have A26:=trivial;exact KB
theorem ze (v:Value) (xs:List Ci) (m:Int) (w:World) (V0:DA w w v xs) (h0:0≤m) (h1:m≤1048576):Calls Tryz.prog 146 #[v,m] w fun e w'=>(∃ r:Int,e = .returned r∧(r = -1∨(0≤r∧r≤m∧xs.length≤1048576)))∧w=w':=by
 obtain ⟨a,len,cap,rfl,-,-,hs⟩:=V0;refine (A1c a len cap m w hs.lenB h0 h1).mono ?_;exact KA
theorem wT (v:Value) (xs:List Ci) (w:World) (V0:DA w w v xs) (hlen:xs.length≤1048576):Calls Tryz.prog 167 #[v] w fun e w'=>(∃ u,e = .returned u∧AC Ci.enc 5 186 w' w u xs)∧Below w w w':=by
 obtain ⟨a,len,cap,rfl,-,-,hs⟩:=V0;have hx:=hs.1;refine (A0O a len cap xs w hs oM).mono ?_;exact LW
theorem yH (v v':Value) (xs:List Ci) (w:World) (V0:DA w w v xs) (V1:DA w w v' xs):Calls Tryz.prog 188 #[v,v'] w fun e w'=>e = .returned true∧Below w w w':=by
 have A27:=trivial;exact KB
theorem NM (v:Value) (xs:List Ev) (m:Int) (w:World) (V0:Bf w w v xs) (h0:0≤m) (h1:m≤1048576):Calls Tryz.prog 41 #[v,m] w fun e w'=>(∃ r:Int,e = .returned r∧(r = -1∨(0≤r∧r≤m∧xs.length≤1048576)))∧w=w':=by
 obtain ⟨a,len,cap,rfl,-,-,hs⟩:=V0;refine (A0n a len cap m w hs.lenB h0 h1).mono ?_;exact KA
theorem ym (v:Value) (xs:List Ev) (w:World) (V0:Bf w w v xs) (hlen:xs.length≤1048576):Calls Tryz.prog 50 #[v] w fun e w'=>(∃ u,e = .returned u∧AC Ev.enc 7 73 w' w u xs)∧Below w w w':=by
 obtain ⟨a,len,cap,rfl,-,-,hs⟩:=V0;have hx:=hs.1;refine (zZ a len cap xs w hs oM).mono ?_;exact LW
theorem Mh (v v':Value) (xs:List Ev) (w:World) (V0:Bf w w v xs) (V1:Bf w w v' xs):Calls Tryz.prog 59 #[v,v'] w fun e w'=>e = .returned true∧Below w w w':=by
 have A28:=trivial;exact KB
theorem A1S (v:Value) (xs:List Ln) (m:Int) (w:World) (V0:BE w w v xs) (h0:0≤m) (h1:m≤1048576):Calls Tryz.prog 147 #[v,m] w fun e w'=>(∃ r:Int,e = .returned r∧(r = -1∨(0≤r∧r≤m∧xs.length≤1048576)))∧w=w':=by
 obtain ⟨a,len,cap,rfl,-,-,hs⟩:=V0;refine (vy a len cap m w hs.lenB h0 h1).mono ?_;exact KA
theorem A0W (v:Value) (xs:List Ln) (w:World) (V0:BE w w v xs) (hlen:xs.length≤1048576):Calls Tryz.prog 168 #[v] w fun e w'=>(∃ u,e = .returned u∧AC Ln.enc 3 178 w' w u xs)∧Below w w w':=by
 obtain ⟨a,len,cap,rfl,-,-,hs⟩:=V0;have hx:=hs.1;refine (xz a len cap xs w hs oM).mono ?_;exact LW
theorem tc (v v':Value) (xs:List Ln) (w:World) (V0:BE w w v xs) (V1:BE w w v' xs):Calls Tryz.prog 189 #[v,v'] w fun e w'=>e = .returned true∧Below w w w':=by
 have A29:=trivial;exact KB
theorem A1i (v:Value) (xs:List Int) (m:Int) (w:World) (V0:Cm w w v xs) (h0:0≤m) (h1:m≤1048576):Calls Tryz.prog 42 #[v,m] w fun e w'=>(∃ r:Int,e = .returned r∧(r = -1∨(0≤r∧r≤m∧xs.length≤1048576)))∧w=w':=by
 obtain ⟨a,len,cap,rfl,-,-,hs⟩:=V0;refine (xh a len cap m w hs.lenB h0 h1).mono ?_;exact KA
theorem vj (v:Value) (xs:List Int) (w:World) (V0:Cm w w v xs) (hlen:xs.length≤1048576):Calls Tryz.prog 51 #[v] w fun e w'=>(∃ u,e = .returned u∧AC DI 1 3 w' w u xs)∧Below w w w':=by
 obtain ⟨a,len,cap,rfl,-,-,hs⟩:=V0;have hx:=hs.1;refine (vv a len cap xs w (Cm.is hs) oM).mono ?_;rintro e w' ⟨⟨a',c',rfl,ho⟩,hb⟩;refine ⟨⟨_,rfl,?_⟩,hb⟩;have:=OI.own2 ho;exact this
theorem uH (v v':Value) (xs:List Int) (w:World) (V0:Cm w w v xs) (V1:Cm w w v' xs):Calls Tryz.prog 60 #[v,v'] w fun e w'=>e = .returned true∧Below w w w':=by
 exact KB
theorem GA (v:Value):v.ownBlock.toList.Nodup:=by cases v.ownBlock<;>simp
abbrev CnR:=AC Cn.enc 7 182
abbrev HtR:=AC Ht.enc 7 184
abbrev CiR:=AC Ci.enc 5 186
abbrev M7:=AC Ev.enc 7 73
structure RwO {α:Type} (enc:α→List Value) (sz:Nat) (ok:α→Prop) (E:TypeId) (F:List Nat) (w:World) (B:Nat) (v:Value) (xs:List α):Prop where
 own:AC enc sz E w B v xs
 ok:∀ x∈xs,ok x
 F:F=v.ownBlock.toList
section
variable {α:Type} {enc:α→List Value} {sz:Nat} {ok:α→Prop} {E:TypeId} {F G:List Nat} {w w':World} {B B':Nat} {v:Value} {xs:List α}
theorem RwO.mk' (h:AC enc sz E w B v xs) (hok:∀ x∈xs,ok x):RwO enc sz ok E v.ownBlock.toList w B v xs:=⟨h,hok,rfl⟩
theorem RwO.lt (h:RwO enc sz ok E F w B v xs):∀ k∈F,B≤k∧k<w.heap.size:=by rw [h.F];exact h.own.blk
theorem RwO.nd (h:RwO enc sz ok E F w B v xs):F.Nodup:=by rw [h.F];exact GA v
theorem RwO.kept (h:RwO enc sz ok E F w B v xs) (hx:Ex G w w') (hn:∀ k∈F,k∉G):RwO enc sz ok E F w' B v xs:=⟨h.own.kept hx (by rw [← h.F];exact hn),h.ok,h.F⟩
theorem RwO.keep (h:RwO enc sz ok E F w B v xs) (hb:Below w w w'):RwO enc sz ok E F w' B v xs:=h.kept (Ex.of_below hb []) (fun k _=>AP)
theorem RwO.le (h:RwO enc sz ok E F w B v xs) (hB:B'≤B):RwO enc sz ok E F w B' v xs:=⟨h.own.le hB,h.ok,h.F⟩
theorem RwO.vw (henc:∀ x,(enc x).length=sz) (h:RwO enc sz ok E F w B v xs):VS enc sz ok w w v xs:=AC.vs henc h.own h.ok
end
abbrev Jz:=RwO Cn.enc 7 Cn.ok 182
abbrev Ko:=RwO Ht.enc 7 Ht.ok 184
abbrev Mg:=RwO Ci.enc 5 Ci.ok 186
abbrev GY:=RwO Ev.enc 7 Ev.ok 73
abbrev Es:=RwO Ln.enc 3 Ln.ok 178
abbrev Uz:=RwO DI 1 AE 3
def Ai (F:List Nat) (w:World) (B:Nat) (x y z:Value) (m:Bk):Prop:=∃ F0 F1 F2,(Jz F0 w B x m.chans∧Ko F1 w B y m.htlcs∧Mg F2 w B z m.circles)∧F=(F0 ++ F1) ++ F2∧F.Nodup∧AE m.tick∧AE m.next∧AE m.wallet
section
variable {F G:List Nat} {w w':World} {B B':Nat} {x y z:Value} {m:Bk}
theorem Ai.nd (h:Ai F w B x y z m):F.Nodup:=by
 obtain ⟨F0,F1,F2,⟨h0,h1,h2⟩,e,hd,hi⟩:=h;exact hd
theorem Ai.kept (h:Ai F w B x y z m) (hx:Ex G w w') (hn:∀ k∈F,k∉G):Ai F w' B x y z m:=by
 obtain ⟨F0,F1,F2,⟨h0,h1,h2⟩,e,hd,hi⟩:=h;subst e;exact ⟨_,_,_,⟨h0.kept hx (fun k hk=>hn k (List.mem_append_left _ (List.mem_append_left _ (hk)))),h1.kept hx (fun k hk=>hn k (List.mem_append_left _ (List.mem_append_right _ (hk)))),h2.kept hx (fun k hk=>hn k (List.mem_append_right _ (hk)))⟩,rfl,hd,hi⟩
theorem Ai.keep (h:Ai F w B x y z m) (hb:Below w w w'):Ai F w' B x y z m:=h.kept (Ex.of_below hb []) (fun k _=>AP)
theorem Ai.le (h:Ai F w B x y z m) (hB:B'≤B):Ai F w B' x y z m:=by
 obtain ⟨F0,F1,F2,⟨h0,h1,h2⟩,e,hd,hi⟩:=h;exact ⟨_,_,_,⟨h0.le hB,h1.le hB,h2.le hB⟩,e,hd,hi⟩
theorem Ai.lt (h:Ai F w B x y z m):∀ k∈F,B≤k∧k<w.heap.size:=by
 obtain ⟨F0,F1,F2,⟨h0,h1,h2⟩,e,hd,hi⟩:=h;subst e;intro k hk;exact Ze
theorem Ai.vw (h:Ai F w B x y z m):BkV w w x y z m:=by
 obtain ⟨F0,F1,F2,⟨h0,h1,h2⟩,e,hd,hi⟩:=h;exact ⟨h0.vw (fun _=>rfl),h1.vw (fun _=>rfl),h2.vw (fun _=>rfl),hi⟩
end
def As (F:List Nat) (w:World) (B:Nat) (v:Value) (m:Lg):Prop:=∃ F0,(Es F0 w B v m.lines)∧F=F0∧F.Nodup∧AE m.last
section
variable {F G:List Nat} {w w':World} {B B':Nat} {v:Value} {m:Lg}
theorem As.nd (h:As F w B v m):F.Nodup:=by
 obtain ⟨F0,h0,e,hd,hi⟩:=h;exact hd
theorem As.kept (h:As F w B v m) (hx:Ex G w w') (hn:∀ k∈F,k∉G):As F w' B v m:=by
 exact Zf
theorem As.keep (h:As F w B v m) (hb:Below w w w'):As F w' B v m:=h.kept (Ex.of_below hb []) (fun k _=>AP)
theorem As.le (h:As F w B v m) (hB:B'≤B):As F w B' v m:=by
 exact Zg
theorem As.lt (h:As F w B v m):∀ k∈F,B≤k∧k<w.heap.size:=by
 exact Zh
theorem As.vw (h:As F w B v m):LgV w w v m:=by
 obtain ⟨F0,h0,e,hd,hi⟩:=h;exact ⟨h0.vw (fun _=>rfl),hi⟩
end
def Dg (F:List Nat) (w:World) (B:Nat) (c d:Value) (m:Lo):Prop:=∃ F0,(C0 F0 w B c d m.disk)∧F=F0∧F.Nodup∧AE m.next∧AE m.epoch
section
variable {F G:List Nat} {w w':World} {B B':Nat} {c d:Value} {m:Lo}
theorem Dg.nd (h:Dg F w B c d m):F.Nodup:=by
 obtain ⟨F0,h0,e,hd,hi⟩:=h;exact hd
theorem Dg.kept (h:Dg F w B c d m) (hx:Ex G w w') (hn:∀ k∈F,k∉G):Dg F w' B c d m:=by
 exact Zf
theorem Dg.keep (h:Dg F w B c d m) (hb:Below w w w'):Dg F w' B c d m:=h.kept (Ex.of_below hb []) (fun k _=>AP)
theorem Dg.le (h:Dg F w B c d m) (hB:B'≤B):Dg F w B' c d m:=by
 exact Zg
theorem Dg.lt (h:Dg F w B c d m):∀ k∈F,B≤k∧k<w.heap.size:=by
 exact Zh
end
def DZ (F:List Nat) (w:World) (B:Nat) (c d x y z l p q:Value) (m:Hb):Prop:=∃ F0 F1 F2 F3 F4,(Dg F0 w B c d m.log∧Ai F1 w B x y z m.book∧As F2 w B l m.ledger∧GY F3 w B p m.wait∧GY F4 w B q m.sent)∧F=(((F0 ++ F1) ++ F2) ++ F3) ++ F4∧F.Nodup
section
variable {F G:List Nat} {w w':World} {B B':Nat} {c d x y z l p q:Value} {m:Hb}
theorem DZ.nd (h:DZ F w B c d x y z l p q m):F.Nodup:=by
 obtain ⟨F0,F1,F2,F3,F4,⟨h0,h1,h2,h3,h4⟩,e,hd⟩:=h;exact hd
theorem DZ.kept (h:DZ F w B c d x y z l p q m) (hx:Ex G w w') (hn:∀ k∈F,k∉G):DZ F w' B c d x y z l p q m:=by
 obtain ⟨F0,F1,F2,F3,F4,⟨h0,h1,h2,h3,h4⟩,e,hd⟩:=h;subst e;exact ⟨_,_,_,_,_,⟨h0.kept hx (fun k hk=>hn k (List.mem_append_left _ (List.mem_append_left _ (List.mem_append_left _ (List.mem_append_left _ (hk)))))),h1.kept hx (fun k hk=>hn k (List.mem_append_left _ (List.mem_append_left _ (List.mem_append_left _ (List.mem_append_right _ (hk)))))),h2.kept hx (fun k hk=>hn k (List.mem_append_left _ (List.mem_append_left _ (List.mem_append_right _ (hk))))),h3.kept hx (fun k hk=>hn k (List.mem_append_left _ (List.mem_append_right _ (hk)))),h4.kept hx (fun k hk=>hn k (List.mem_append_right _ (hk)))⟩,rfl,hd⟩
theorem DZ.keep (h:DZ F w B c d x y z l p q m) (hb:Below w w w'):DZ F w' B c d x y z l p q m:=h.kept (Ex.of_below hb []) (fun k _=>AP)
theorem DZ.le (h:DZ F w B c d x y z l p q m) (hB:B'≤B):DZ F w B' c d x y z l p q m:=by
 obtain ⟨F0,F1,F2,F3,F4,⟨h0,h1,h2,h3,h4⟩,e,hd⟩:=h;exact ⟨_,_,_,_,_,⟨h0.le hB,h1.le hB,h2.le hB,h3.le hB,h4.le hB⟩,e,hd⟩
theorem DZ.lt (h:DZ F w B c d x y z l p q m):∀ k∈F,B≤k∧k<w.heap.size:=by
 obtain ⟨F0,F1,F2,F3,F4,⟨h0,h1,h2,h3,h4⟩,e,hd⟩:=h;subst e;intro k hk;rcases List.mem_append.1 hk with hk | hk
 rotate_left
 ·exact h4.lt k hk
 rcases List.mem_append.1 hk with hk | hk
 rotate_left
 ·exact h3.lt k hk
 exact Ze
end
def WdO (F:List Nat) (w:World) (B:Nat) (c d x y z l p q c2 d2 t s k:Value) (m:Wd):Prop:=∃ F0 F1 F2 F3 F4,(DZ F0 w B c d x y z l p q m.hub∧C0 F1 w B c2 d2 m.disk∧GY F2 w B t m.took∧GY F3 w B s m.sent∧Uz F4 w B k m.codes)∧F=(((F0 ++ F1) ++ F2) ++ F3) ++ F4∧F.Nodup
section
variable {F G:List Nat} {w w':World} {B B':Nat} {c d x y z l p q c2 d2 t s k:Value} {m:Wd}
end
theorem Xj (v0 v1:Value) (d:Dk) (m:Int) (w:World) (V:DkV w w v0 v1 d) (h0:0≤m) (h1:m≤1048576):Calls Tryz.prog 40 #[.agg #[v0,v1],m] w fun e w'=>(∃ r:Int,e = .returned r∧(r = -1∨(0≤r∧r≤m∧Jl d)))∧Below w w w':=by
 go_enter Tryz.func40,Tryz.ntmps40
 go_wp2_with fail
 refine (A1l _ d.cells _ _ (V.cells.keep (bW)) h0 h1).mono ?_;have A3A:=trivial;exact Nb
theorem vX (v0 v1:Value) (l:Lo) (m:Int) (w:World) (V:LoV w w v0 v1 l) (h0:0≤m) (h1:m≤1048576):Calls Tryz.prog 71 #[.agg #[v0,v1,l.next,l.epoch],m] w fun e w'=>(∃ r:Int,e = .returned r∧(r = -1∨(0≤r∧r≤m∧Jl l.disk)))∧Below w w w':=by
 go_enter Tryz.func71,Tryz.ntmps71
 go_wp2_with fail
 refine (Xj _ _ l.disk _ _ (V.disk.keep (bW)) h0 h1).mono ?_;have A3B:=trivial;exact Nb
theorem zk (x y z:Value) (b:Bk) (m:Int) (w:World) (V:BkV w w x y z b) (h0:0≤m) (h1:m≤1048576):Calls Tryz.prog 72 #[.agg #[b.tick,b.next,b.wallet,x,y,z],m] w fun e w'=>(∃ r:Int,e = .returned r∧(r = -1∨(0≤r∧r≤m∧Qk b)))∧Below w w w':=by
 go_enter Tryz.func72,Tryz.ntmps72
 go_wp2_with fail
 refine (A1F _ b.chans _ _ (V.chans.keep (bW)) h0 h1).mono ?_;have A3C:=trivial;exact Zi
theorem A18 (v:Value) (l:Lg) (m:Int) (w:World) (V:LgV w w v l) (h0:0≤m) (h1:m≤1048576):Calls Tryz.prog 73 #[.agg #[l.last,v],m] w fun e w'=>(∃ r:Int,e = .returned r∧(r = -1∨(0≤r∧r≤m∧Qe l)))∧Below w w w':=by
 go_enter Tryz.func73,Tryz.ntmps73
 go_wp2_with fail
 refine (A1S _ l.lines _ _ (V.lines.keep (bW)) h0 h1).mono ?_;exact Zi
theorem A0z (c d x y z l p q:Value) (h:Hb) (m:Int) (w:World) (V:HbV w w c d x y z l p q h) (h0:0≤m) (h1:m≤1048576):Calls Tryz.prog 18 #[.agg #[c,d,h.log.next,h.log.epoch,h.book.tick,h.book.next,h.book.wallet,x,y,z,h.ledger.last,l,p,q],m] w fun e w'=>(∃ r:Int,e = .returned r∧(r = -1∨(0≤r∧r≤m∧Kk h)))∧Below w w w':=by
 go_enter Tryz.func18,Tryz.ntmps18
 go_wp2_with fail
 refine (vX _ _ h.log _ _ (V.log.keep (bW)) h0 h1).mono ?_;have A3D:=trivial;exact Nb
theorem Yk (c d x y z l p q c2 d2 t s k:Value) (W:Wd) (m:Int) (w:World) (V:WdV w w c d x y z l p q c2 d2 t s k W) (h0:0≤m) (h1:m≤1048576):Calls Tryz.prog 9 #[.agg #[W.up,c,d,W.hub.log.next,W.hub.log.epoch,W.hub.book.tick,W.hub.book.next,W.hub.book.wallet,x,y,z,W.hub.ledger.last,l,p,q,c2,d2,t,s,k],m] w fun e w'=>(∃ r:Int,e = .returned r∧(r = -1∨(0≤r∧r≤m∧Jp W)))∧Below w w w':=by
 go_enter Tryz.func9,Tryz.ntmps9
 go_wp2_with fail
 refine (A0z _ _ _ _ _ _ _ _ W.hub _ _ (V.hub.keep (bW)) h0 h1).mono ?_;exact Nb
theorem WI (v0 v1 v0' v1':Value) (d:Dk) (w:World) (V:DkV w w v0 v1 d) (V':DkV w w v0' v1' d):Calls Tryz.prog 58 #[.agg #[v0,v1], .agg #[v0',v1']] w fun e w'=>e = .returned true∧Below w w w':=by
 go_enter Tryz.func58,Tryz.ntmps58
 go_wp2_with fail
 refine (xw _ _ d.cells _ (V.cells.keep (bW)) (V'.cells.keep (bW))).mono ?_;have A3E:=trivial;exact LZ
theorem A0w (v0 v1 v0' v1':Value) (l:Lo) (w:World) (V:LoV w w v0 v1 l) (V':LoV w w v0' v1' l):Calls Tryz.prog 86 #[.agg #[v0,v1,l.next,l.epoch], .agg #[v0',v1',l.next,l.epoch]] w fun e w'=>e = .returned true∧Below w w w':=by
 go_enter Tryz.func86,Tryz.ntmps86
 go_wp2_with fail
 refine (WI _ _ _ _ l.disk _ (V.disk.keep (bW)) (V'.disk.keep (bW))).mono ?_;exact Zj
theorem xQ (x y z x' y' z':Value) (b:Bk) (w:World) (V:BkV w w x y z b) (V':BkV w w x' y' z' b):Calls Tryz.prog 87 #[.agg #[b.tick,b.next,b.wallet,x,y,z], .agg #[b.tick,b.next,b.wallet,x',y',z']] w fun e w'=>e = .returned true∧Below w w w':=by
 go_enter Tryz.func87,Tryz.ntmps87
 go_wp2_with fail
 refine (yU _ _ b.chans _ (V.chans.keep (bW)) (V'.chans.keep (bW))).mono ?_;have A3F:=trivial;exact LZ
theorem A1u (v v':Value) (l:Lg) (w:World) (V:LgV w w v l) (V':LgV w w v' l):Calls Tryz.prog 88 #[.agg #[l.last,v], .agg #[l.last,v']] w fun e w'=>e = .returned true∧Below w w w':=by
 go_enter Tryz.func88,Tryz.ntmps88
 go_wp2_with fail
 refine (tc _ _ l.lines _ (V.lines.keep (bW)) (V'.lines.keep (bW))).mono ?_;exact Zj
theorem zj (c d x y z l p q c' d' x' y' z' l' p' q':Value) (h:Hb) (w:World) (V:HbV w w c d x y z l p q h) (V':HbV w w c' d' x' y' z' l' p' q' h):Calls Tryz.prog 23 #[.agg #[c,d,h.log.next,h.log.epoch,h.book.tick,h.book.next,h.book.wallet,x,y,z,h.ledger.last,l,p,q], .agg #[c',d',h.log.next,h.log.epoch,h.book.tick,h.book.next,h.book.wallet,x',y',z',h.ledger.last,l',p',q']] w fun e w'=>e = .returned true∧Below w w w':=by
 go_enter Tryz.func23,Tryz.ntmps23
 go_wp2_with fail
 refine (A0w _ _ _ _ h.log _ (V.log.keep (bW)) (V'.log.keep (bW))).mono ?_;have A3G:=trivial;exact LZ
theorem Ve (c d x y z l p q c2 d2 t s k c' d' x' y' z' l' p' q' c2' d2' t' s' k':Value) (W:Wd) (w:World) (V:WdV w w c d x y z l p q c2 d2 t s k W) (V':WdV w w c' d' x' y' z' l' p' q' c2' d2' t' s' k' W):Calls Tryz.prog 13 #[.agg #[W.up,c,d,W.hub.log.next,W.hub.log.epoch,W.hub.book.tick,W.hub.book.next,W.hub.book.wallet,x,y,z,W.hub.ledger.last,l,p,q,c2,d2,t,s,k], .agg #[W.up,c',d',W.hub.log.next,W.hub.log.epoch,W.hub.book.tick,W.hub.book.next,W.hub.book.wallet,x',y',z',W.hub.ledger.last,l',p',q',c2',d2',t',s',k']] w fun e w'=>e = .returned true∧Below w w w':=by
 go_enter Tryz.func13,Tryz.ntmps13
 go_wp2_with fail
 refine (zj _ _ _ _ _ _ _ _ _ _ _ _ _ _ _ _ W.hub _ (V.hub.keep (bW)) (V'.hub.keep (bW))).mono ?_;exact LZ
theorem Ke:(Tryz.prog.info? 47).map (·.size)=some 2:=Cr
theorem ND:(Tryz.prog.info? 49).map (·.size)=some 4:=Cr
theorem Ip:(Tryz.prog.info? 54).map (·.size)=some 6:=Cr
theorem Mi:(Tryz.prog.info? 57).map (·.size)=some 2:=Cr
theorem Mb:(Tryz.prog.info? 60).map (·.size)=some 14:=Cr
theorem Fh:(Tryz.prog.info? 62).map (·.size)=some 20:=Cr
theorem Yb:∃ fs,Tryz.prog.underlying 47=some (.struct fs):=⟨_,Tryz.underlying47⟩
theorem Uu:∃ fs,Tryz.prog.underlying 49=some (.struct fs):=⟨_,Tryz.underlying49⟩
theorem NE:∃ fs,Tryz.prog.underlying 54=some (.struct fs):=⟨_,Tryz.underlying54⟩
theorem YW:∃ fs,Tryz.prog.underlying 57=some (.struct fs):=⟨_,Tryz.underlying57⟩
theorem Yc:∃ fs,Tryz.prog.underlying 60=some (.struct fs):=⟨_,Tryz.underlying60⟩
theorem Hh:∃ fs,Tryz.prog.underlying 62=some (.struct fs):=⟨_,Tryz.underlying62⟩
theorem XK:(Tryz.prog.info? 25).map (·.size)=some 2:=Cr
theorem zC:(Tryz.prog.info? 27).map (·.size)=some 4:=Cr
theorem A0P:(Tryz.prog.info? 32).map (·.size)=some 6:=Cr
theorem zt:(Tryz.prog.info? 35).map (·.size)=some 2:=Cr
theorem zy:(Tryz.prog.info? 38).map (·.size)=some 14:=Cr
theorem ID:(Tryz.prog.info? 41).map (·.size)=some 20:=Cr
theorem Ha:∃ fs,Tryz.prog.underlying 41=some (.struct fs):=⟨_,Tryz.underlying41⟩
theorem Vf:∃ fs,Tryz.prog.underlying 25=some (.struct fs):=⟨_,Tryz.underlying25⟩
theorem wL:∃ fs,Tryz.prog.underlying 27=some (.struct fs):=⟨_,Tryz.underlying27⟩
theorem A2I:∃ fs,Tryz.prog.underlying 32=some (.struct fs):=⟨_,Tryz.underlying32⟩
theorem A1O:∃ fs,Tryz.prog.underlying 35=some (.struct fs):=⟨_,Tryz.underlying35⟩
theorem yI:∃ fs,Tryz.prog.underlying 38=some (.struct fs):=⟨_,Tryz.underlying38⟩
def C9 {α β:Type} (K:Kd α β) (F:List Nat) (w:World) (B:Nat) (v:Value) (xs:List α):Prop:=∃ vs,ON K w B v xs vs∧F=A5 (v :: vs)
section
variable {α β:Type} {K:Kd α β} {F G:List Nat} {w w':World} {B B':Nat} {v:Value} {xs:List α}
theorem C9.lt (h:C9 K F w B v xs):∀ k∈F,B≤k∧k<w.heap.size:=by
 obtain ⟨vs,h,rfl⟩:=h;exact h.lt
theorem C9.nd (h:C9 K F w B v xs):F.Nodup:=by
 obtain ⟨vs,h,rfl⟩:=h;exact h.nd
theorem C9.kept (h:C9 K F w B v xs) (hx:Ex G w w') (hn:∀ k∈F,k∉G):C9 K F w' B v xs:=by
 obtain ⟨vs,h,rfl⟩:=h;exact ⟨vs,h.kept hx hn,rfl⟩
theorem C9.keep (h:C9 K F w B v xs) (hb:Below w w w'):C9 K F w' B v xs:=h.kept (Ex.of_below hb []) (fun k _=>AP)
theorem C9.le (h:C9 K F w B v xs) (hB:B'≤B):C9 K F w B' v xs:=by
 obtain ⟨vs,h,rfl⟩:=h;exact ⟨vs,h.le hB,rfl⟩
theorem C9.form (h:C9 K F w B v xs):∃ a n c,v = .slice a n c:=by
 obtain ⟨vs,h,rfl⟩:=h;obtain ⟨a,c,e,_⟩:=h.form;exact ⟨a,_,c,e⟩
end
section
variable {α:Type} {enc:α→List Value} {sz:Nat} {ok:α→Prop} {E:TypeId} {F:List Nat} {w:World} {B:Nat} {v:Value} {xs:List α}
theorem RwO.form (h:RwO enc sz ok E F w B v xs):∃ a n c,v = .slice a n c:=by
 rcases h.own.2 with ⟨h1,_⟩ | ⟨g,c,cur,h1,_⟩
 ·exact ⟨_,_,_,h1⟩
 exact ⟨_,_,_,h1⟩
end
theorem C0.of {F0 F1:List Nat} {w:World} {B:Nat} {v0 v1:Value} {d:Dk} (h0:C9 Bm F0 w B v0 d.cells) (h1:C9 Cc F1 w B v1 d.dirty) (hn:(F0 ++ F1).Nodup):C0 (F0 ++ F1) w B v0 v1 d:=by
 obtain ⟨us,h0,rfl⟩:=h0;obtain ⟨vs,h1,rfl⟩:=h1;exact ⟨us,vs,h0,h1,rfl,hn⟩
theorem C0.form {F:List Nat} {w:World} {B:Nat} {v0 v1:Value} {d:Dk} (h:C0 F w B v0 v1 d):(∃ a n c,v0 = .slice a n c)∧∃ a n c,v1 = .slice a n c:=by
 obtain ⟨us,vs,h0,h1,_⟩:=h;exact ⟨C9.form ⟨us,h0,rfl⟩,C9.form ⟨vs,h1,rfl⟩⟩
theorem As.form {F:List Nat} {w:World} {B:Nat} {v:Value} {m:Lg} (h:As F w B v m):∃ a n c,v = .slice a n c:=by
 obtain ⟨F0,h0,_⟩:=h;exact h0.form
theorem Dg.form {F:List Nat} {w:World} {B:Nat} {c d:Value} {m:Lo} (h:Dg F w B c d m):(∃ a n k,c = .slice a n k)∧∃ a n k,d = .slice a n k:=by
 obtain ⟨F0,h0,_⟩:=h;exact h0.form
theorem Ai.form {F:List Nat} {w:World} {B:Nat} {x y z:Value} {m:Bk} (h:Ai F w B x y z m):(∃ a n k,x = .slice a n k)∧(∃ a n k,y = .slice a n k)∧∃ a n k,z = .slice a n k:=by
 obtain ⟨F0,F1,F2,⟨h0,h1,h2⟩,_⟩:=h;exact ⟨h0.form,h1.form,h2.form⟩
theorem DZ.form {F:List Nat} {w:World} {B:Nat} {c d x y z l p q:Value} {m:Hb} (h:DZ F w B c d x y z l p q m):((∃ a n k,c = .slice a n k)∧∃ a n k,d = .slice a n k)∧((∃ a n k,x = .slice a n k)∧(∃ a n k,y = .slice a n k)∧∃ a n k,z = .slice a n k)∧(∃ a n k,l = .slice a n k)∧(∃ a n k,p = .slice a n k)∧∃ a n k,q = .slice a n k:=by
 obtain ⟨F0,F1,F2,F3,F4,⟨h0,h1,h2,h3,h4⟩,_⟩:=h;exact ⟨h0.form,h1.form,h2.form,h3.form,h4.form⟩
theorem A0B (v:Value) (xs:List (List UInt8)) (w:World) (V0:VN Bm w w v xs) (hlen:xs.length≤1048576) (hbd:∀ x∈xs,(id x).length≤1048576):Calls Tryz.prog 122 #[v] w fun e w'=>(∃ F u,e = .returned u∧C9 Bm F w' w u xs)∧Below w w w':=by
 refine (yO v xs w V0 hlen hbd).mono ?_;exact Zk
theorem yD (v:Value) (xs:List Wr) (w:World) (V0:VN Cc w w v xs) (hlen:xs.length≤1048576) (hbd:∀ x∈xs,(x.bytes).length≤1048576):Calls Tryz.prog 123 #[v] w fun e w'=>(∃ F u,e = .returned u∧C9 Cc F w' w u xs)∧Below w w w':=by
 refine (yR v xs w V0 hlen hbd).mono ?_;exact Zk
theorem ug (v:Value) (xs:List Cn) (w:World) (V0:Bz w w v xs) (hlen:xs.length≤1048576):Calls Tryz.prog 165 #[v] w fun e w'=>(∃ F u,e = .returned u∧Jz F w' w u xs)∧Below w w w':=by
 refine (A0F v xs w V0 hlen).mono ?_;exact KC
theorem vW (v:Value) (xs:List Ht) (w:World) (V0:DC w w v xs) (hlen:xs.length≤1048576):Calls Tryz.prog 166 #[v] w fun e w'=>(∃ F u,e = .returned u∧Ko F w' w u xs)∧Below w w w':=by
 refine (vH v xs w V0 hlen).mono ?_;exact KC
theorem A00 (v:Value) (xs:List Ci) (w:World) (V0:DA w w v xs) (hlen:xs.length≤1048576):Calls Tryz.prog 167 #[v] w fun e w'=>(∃ F u,e = .returned u∧Mg F w' w u xs)∧Below w w w':=by
 refine (wT v xs w V0 hlen).mono ?_;exact KC
theorem NQ (v:Value) (xs:List Ev) (w:World) (V0:Bf w w v xs) (hlen:xs.length≤1048576):Calls Tryz.prog 50 #[v] w fun e w'=>(∃ F u,e = .returned u∧GY F w' w u xs)∧Below w w w':=by
 refine (ym v xs w V0 hlen).mono ?_;exact KC
theorem wv (v:Value) (xs:List Ln) (w:World) (V0:BE w w v xs) (hlen:xs.length≤1048576):Calls Tryz.prog 168 #[v] w fun e w'=>(∃ F u,e = .returned u∧Es F w' w u xs)∧Below w w w':=by
 refine (A0W v xs w V0 hlen).mono ?_;exact KC
theorem uJ (v:Value) (xs:List Int) (w:World) (V0:Cm w w v xs) (hlen:xs.length≤1048576):Calls Tryz.prog 51 #[v] w fun e w'=>(∃ F u,e = .returned u∧Uz F w' w u xs)∧Below w w w':=by
 refine (vj v xs w V0 hlen).mono ?_;exact KC
end
theorem Pp {l:List Cn} (hs:Cv l) {i j:Nat} {c d:Cn} (hi:l[i]? = some c) (hj:l[j]? = some d) (hlt:i<j):c.id<d.id:=by
 obtain ⟨h1,e1⟩:=List.getElem?_eq_some_iff.1 hi;obtain ⟨h2,e2⟩:=List.getElem?_eq_some_iff.1 hj;have:=List.pairwise_iff_getElem.1 hs i j h1 h2 hlt
 rw [e1,e2] at this;exact this
theorem zh {l:List Cn} (hs:Cv l) {i j:Nat} {c d:Cn} (hi:l[i]? = some c) (hj:l[j]? = some d) (e:c.id=d.id):i=j:=by
 rcases Nat.lt_trichotomy i j with h | h | h
 ·have:=Pp hs hi hj h;omega
 ·exact h
 have:=Pp hs hj hi h;omega
theorem XG {l:List Cn} {i:Nat} {c:Cn} {ch:Int} (hs:Cv l) (hi:l[i]? = some c) (hc:c.id=ch) (f:Cn→Cn):l.set i (f c)=AU l ch f:=by
 apply List.ext_getElem?;intro j;have hlt:=(List.getElem?_eq_some_iff.1 hi).1;unfold AU;rw [List.getElem?_set,List.getElem?_map];by_cases hij:i=j
 ·subst hij;rw [if_pos rfl,if_pos hlt,hi];simp [hc]
 rw [if_neg hij]
 cases hj:l[j]? with
 | none=>rfl
 | some d =>
  have hd:¬ d.id=ch:=fun e=>hij (zh hs hi hj (hc.trans e.symm));simp [hd]
theorem M5 {α:Type} (key:α→Int):∀ (l:List α) (i:Nat) (x:α),(l.map key).Nodup→l[i]? = some x→l.take i ++ l.drop (i+1)=l.filter fun y => !decide (key y=key x)
 | [],i,x,_,hx=>IX
 | a :: l,0,x,hn,hx=>by
  simp only [List.getElem?_cons_zero,Option.some.injEq] at hx;subst hx;rw [List.map_cons,List.nodup_cons] at hn
  have h1:l.filter (fun y => !decide (key y=key a))=l:=by
   rw [List.filter_eq_self];intro y hy;(have:key y≠key a:=fun e=>hn.1 (e ▸ List.mem_map_of_mem hy));simp [this]
  simp [h1]
 | a :: l,i+1,x,hn,hx=>by
  simp only [List.getElem?_cons_succ] at hx;rw [List.map_cons,List.nodup_cons] at hn;have h1:key a≠key x:=fun e=>hn.1 (e ▸ List.mem_map_of_mem (List.mem_of_getElem? hx));have ih:=M5 key l i x hn.2 hx;rw [List.take_succ_cons,List.drop_succ_cons,List.cons_append,ih,List.filter_cons];simp [h1]
theorem IV {α:Type} {p:α→Bool}:∀ {l:List α} {k:Nat} {x:α},(l.take k).all (fun y => !p y)=true→l[k]? = some x→p x=true→l.find? p=some x∧l.findIdx? p=some k∧l.any p=true
 | [],k,x,_,hx,_=>IX
 | a :: l,0,x,_,hx,hp=>by
  simp only [List.getElem?_cons_zero,Option.some.injEq] at hx;subst hx;simp [List.findIdx?_cons,hp]
 | a :: l,k+1,x,h,hx,hp=>by
  simp only [List.getElem?_cons_succ] at hx;rw [List.take_succ_cons,List.all_cons,Bool.and_eq_true] at h;obtain ⟨h1,h2,h3⟩:=IV h.2 hx hp;have ha:p a=false:=by simpa using h.1
  refine ⟨?_,?_,?_⟩
  ·rw [List.find?_cons,ha];exact h1
  ·rw [List.findIdx?_cons,ha,h2];rfl
  rw [List.any_cons,h3,Bool.or_true]
theorem JA {α:Type} {p:α→Bool} {l:List α} (h:l.all (fun y => !p y)=true):l.find? p=none∧l.findIdx? p=none∧l.any p=false:=by
 have hh:∀ y∈l,p y=false:=fun y hy=>by simpa using List.all_eq_true.1 h y hy
 refine ⟨?_,?_,?_⟩
 ·rw [List.find?_eq_none];intro y hy;simp [hh y hy]
 ·rw [List.findIdx?_eq_none_iff];intro y hy;exact hh y hy
 rw [List.any_eq_false];intro y hy;simp [hh y hy]
theorem QU {α:Type} {p:α→Bool} {l:List α} {k:Nat} {x:α} (hx:l[k]? = some x) (hp:p x=true):l.any p=true:=List.any_eq_true.2 ⟨x,List.mem_of_getElem? hx,hp⟩
theorem IQ {α:Type} {p:α→Bool} {l:List α} {k:Nat} {x:α} (ht:l.take (k+1)=l.take k ++ [x]) (h:(l.take k).all (fun y => !p y)=true) (hp:p x=false):(l.take (k+1)).all (fun y => !p y)=true:=by
 rw [ht,List.all_append,h];simp [hp]
theorem MU {α:Type} (f:α→Int) {l:List α} {k:Nat} {x:α} (ht:l.take (k+1)=l.take k ++ [x]):((l.take (k+1)).map f).sum=((l.take k).map f).sum+f x:=by rw [ht];simp
theorem K6 {α:Type} (f:α→Int) (c:Int) (hc:0≤c):∀ (l:List α) (k:Nat),(∀ x∈l,0≤f x∧f x≤c)→0≤((l.take k).map f).sum∧((l.take k).map f).sum≤c*(l.length:Int)
 | [],k,_=>AP
 | a :: l,0,_=>by
  have:(0:Int)≤c*((a :: l).length:Int):=Int.mul_nonneg hc oM
  exact Fm
 | a :: l,k+1,h=>by
  have h1:=h a sM;have h2:=K6 f c hc l k (fun x hx=>h x (by simp [hx]));rw [List.take_succ_cons,List.map_cons,List.sum_cons,List.length_cons];have e:c*((l.length+1:Nat):Int)=c*(l.length:Int)+c:=by rw [Int.natCast_add,Int.mul_add];simp
  rw [e];omega
theorem zl {l:List Cn} {h:Ht} (H:Hk l h) (ch:Int):0≤BS ch h∧BS ch h≤1125899906842624:=by
 have h1:=H.ain;have h2:=H.o1;have h3:=H.o2;unfold Am at h1;unfold BS;split<;>omega
theorem A0C {l:List Cn} {h:Ht} (H:Hk l h) (ch:Int):0≤Bb ch h∧Bb ch h≤1125899906842624:=by
 have h1:=H.ain;have h2:=H.o1;have h3:=H.o2;unfold Am at h1;unfold Bb;split<;>omega
theorem tj {l:List Cn} {c:Ci} (H:Ok1 l c) (ch:Int):0≤CY ch c∧CY ch c≤2251799813685248:=by
 have h1:=H.amt;have h2:=H.fee;unfold Am at h1 h2;unfold CY;split<;>omega
theorem A0s {l:List Cn} {c:Ci} (H:Ok1 l c) (ch:Int):0≤Bu ch c∧Bu ch c≤2251799813685248:=by
 have h1:=H.amt;unfold Am at h1;unfold Bu;split<;>omega
def AG (q:Bool) (c k:Int):Int:=if q=true∧k=0 then c else k
def Jn:List (Bool × Int)→Int→Int
 | [],k=>k
 | (q,c) :: r,k=>Jn r (AG q c k)
theorem U3:∀ (r:List (Bool × Int)) (k:Int),k≠0→Jn r k=k
 | [],_,_=>rfl
 | (q,c) :: r,k,h=>by
  have:AG q c k=k:=by unfold AG;rw [if_neg (fun e=>h e.2)]
  rw [Jn,this,U3 r k h]
theorem Wi:∀ (r:List (Bool × Int)),(∀ p∈r,p.2≠0)→Jn r 0=A4 r
 | [],_=>rfl
 | (q,c) :: r,h=>by
  have hc:c≠0:=h (q,c) sM;rw [Jn,A4]
  cases q with
  | true =>
   (have:AG true c 0=c:=by unfold AG;simp);rw [this,U3 r c hc];simp
  | false =>
   (have:AG false c 0=0:=by unfold AG;simp);rw [this,Wi r (fun p hp=>h p (by simp [hp]))];simp
theorem MN (c k:Int):AG false c k=k:=by unfold AG;simp
theorem Jm (q:Bool) (c k:Int) (h:k≠0):AG q c k=k:=by unfold AG;rw [if_neg (fun e=>h e.2)]
theorem Qo {d:Dk} {i f:Nat} {last:Int} {s:Sc} (h:Ca (DG d i)=some s) (hq:s.seq=(i:Int)) (hl:last≤s.epoch):DM d i last (f+1)=s :: DM d (i+1) s.epoch f:=by
 rw [DM,h];simp [hq,hl]
theorem XX {d:Dk} {i f:Nat} {last:Int} (h:Ca (DG d i)=none):DM d i last (f+1) = []:=by rw [DM,h]
theorem QG {d:Dk} {i f:Nat} {last:Int} {s:Sc} (h:Ca (DG d i)=some s) (hb:¬ (s.seq=(i:Int)∧last≤s.epoch)):DM d i last (f+1) = []:=by
 rw [DM,h];simp only [if_neg hb]
theorem vx {l:List UInt8} {s:Sc} (h:Ca l=some s):DD s=true∧s=EZ l∧l.length=128∧DE l 7≤100∧Dv s=l:=by
 unfold Ca at h;split at h
 ·rename_i h1;split at h
  ·rename_i h2;obtain rfl:=Option.some.inj h;exact ⟨h2.1,rfl,h1.1,h1.2,h2.2⟩
  cases h
 cases h
theorem NG {s:Sc} (h:DD s=true):(0≤s.seq∧s.seq≤599)∧(1≤s.epoch∧s.epoch≤16000000)∧s.body.length≤100:=by
 unfold DD at h;exact Qx
theorem zf {l:List UInt8} (h:l.length=0∨l.length=128):(GH l).length=128:=by
 unfold GH;split
 ·simp [GI]
 rename_i hn;rcases h with h | h
 ·exact absurd (List.eq_nil_of_length_eq_zero h) hn
 exact h
theorem Uo {d:Dk} (hok:BO d=true) {i:Nat} (hi:i<d.cells.length):(DG d i).length=128:=by
 unfold BO at hok;simp only [Bool.and_eq_true,List.all_eq_true,decide_eq_true_eq] at hok;unfold DG;split
 ·rename_i w hw;have hm:=List.mem_of_find?_eq_some hw;rw [List.mem_reverse] at hm;exact (hok.2 w hm).2
 have hx:d.cells[i]? = some d.cells[i]:=List.getElem?_eq_getElem hi;rw [hx];exact zf (hok.1.2 _ (List.getElem_mem hi))
theorem A1y {l:List Int} {i:Nat} {k:Int} (hx:l[i]? = some k) (ht:l.take (i+1)=l.take i ++ [k]) (h:DT [] l=DT (l.take i) (l.drop i)):DT [] l=((Gh k && !EU (l.take i) k) && DT (l.take (i+1)) (l.drop (i+1))):=by
 have hlt:=(List.getElem?_eq_some_iff.1 hx).1
 have hd:l.drop i=k :: l.drop (i+1):=by
  rw [List.drop_eq_getElem_cons hlt]
  congr 1
  exact (List.getElem?_eq_some_iff.1 hx).2
 rw [h,hd,DT,ht]
theorem Vi (l:List Int):DT l ([]:List Int)=true:=by rw [DT]
def Ga (c:List UInt8):Bool:=decide (c.length=0∨c.length=128)
def IA (n:Nat) (w:Wr):Bool:=decide ((0≤w.at_∧w.at_<(n:Int))∧w.bytes.length=128)
theorem Mw (d:Dk):BO d=(decide (1≤d.cells.length∧d.cells.length≤600) && decide (d.dirty.length≤600) && d.cells.all Ga && d.dirty.all (IA d.cells.length)):=rfl
theorem LH {α:Type} {l:List α} {P:α→Bool} {k:Nat} {x:α} (h:l[k]? = some x) (hp:P x=false):l.all P=false:=by
 cases hl:l.all P with
 | false=>rfl
 | true=>rw [List.all_eq_true.1 hl x (List.mem_of_getElem? h)] at hp;cases hp
theorem K0 {α:Type} {l:List α} {P:α→Bool} {k:Nat} {x:α} (ht:l.take (k+1)=l.take k ++ [x]) (h:(l.take k).all P=true) (hp:P x=true):(l.take (k+1)).all P=true:=by rw [ht,List.all_append,h];simp [hp]
theorem VS.form {α:Type} {enc:α→List Value} {sz:Nat} {ok:α→Prop} {w:World} {B:Nat} {u:Value} {xs:List α} (h:VS enc sz ok w B u xs):∃ a n c,u = .slice a n c∧xs.length=n∧n≤c:=by
 obtain ⟨a,n,c,e,h1,h2,h3⟩:=h;exact ⟨a,n,c,e,h3.1,h1⟩
theorem QT (v0 v1:Value) (d:Dk) (w:World) (V:DkV w w v0 v1 d):Calls Tryz.prog 57 #[.agg #[v0,v1]] w fun e w'=>e = .returned (BO d)∧Below w w w':=by
 have A3K:=trivial;exact Zp
theorem Mn (v0 v1:Value) (d:Dk) (w:World) (V:DkV w w v0 v1 d):Calls Tryz.prog 48 #[.agg #[v0,v1]] w fun e w'=>e = .returned (BO d)∧Below w w w':=by
 exact Zp
theorem VS.lenB {α:Type} {enc:α→List Value} {sz:Nat} {ok:α→Prop} {w:World} {B n c:Nat} {a:Option Addr} {xs:List α} (h:VS enc sz ok w B (.slice a n c) xs):n≤9223372036854775807:=by
 obtain ⟨a',n',c',e,-,-,F⟩:=h;exact Zq
theorem Bz.at_ {w:World} {B n c:Nat} {a:Option Addr} {xs:List Cn} (h:Bz w B (.slice a n c) xs) {k:Nat} (hk:k<n):∃ g off x,a=some ⟨g,off,none⟩∧g<B∧x.ok∧(w.cell? ⟨g,off+k*7,none⟩=some (.int .i64 x.id)∧w.cell? ⟨g,off+k*7+1,none⟩=some (.int .i64 x.size)∧w.cell? ⟨g,off+k*7+2,none⟩=some (.int .i64 x.loc)∧w.cell? ⟨g,off+k*7+3,none⟩=some (.int .i64 x.rem)∧w.cell? ⟨g,off+k*7+4,none⟩=some (.int .i64 x.base)∧w.cell? ⟨g,off+k*7+5,none⟩=some (.int .i64 x.ppm)∧w.cell? ⟨g,off+k*7+6,none⟩=some (.int .i64 x.score))∧Hid (xs[k]? = some x)∧Hid (xs.take (k+1)=xs.take k ++ [x]):=by
 exact Nc
theorem DC.at_ {w:World} {B n c:Nat} {a:Option Addr} {xs:List Ht} (h:DC w B (.slice a n c) xs) {k:Nat} (hk:k<n):∃ g off x,a=some ⟨g,off,none⟩∧g<B∧x.ok∧(w.cell? ⟨g,off+k*7,none⟩=some (.int .i64 x.key)∧w.cell? ⟨g,off+k*7+1,none⟩=some (.int .i64 x.inn)∧w.cell? ⟨g,off+k*7+2,none⟩=some (.int .i64 x.out)∧w.cell? ⟨g,off+k*7+3,none⟩=some (.int .i64 x.ain)∧w.cell? ⟨g,off+k*7+4,none⟩=some (.int .i64 x.aout)∧w.cell? ⟨g,off+k*7+5,none⟩=some (.bool x.kept)∧w.cell? ⟨g,off+k*7+6,none⟩=some (.int .i64 x.age))∧Hid (xs[k]? = some x)∧Hid (xs.take (k+1)=xs.take k ++ [x]):=by
 exact Nc
theorem DA.at_ {w:World} {B n c:Nat} {a:Option Addr} {xs:List Ci} (h:DA w B (.slice a n c) xs) {k:Nat} (hk:k<n):∃ g off x,a=some ⟨g,off,none⟩∧g<B∧x.ok∧(w.cell? ⟨g,off+k*5,none⟩=some (.int .i64 x.key)∧w.cell? ⟨g,off+k*5+1,none⟩=some (.int .i64 x.frm)∧w.cell? ⟨g,off+k*5+2,none⟩=some (.int .i64 x.tw)∧w.cell? ⟨g,off+k*5+3,none⟩=some (.int .i64 x.amt)∧w.cell? ⟨g,off+k*5+4,none⟩=some (.int .i64 x.fee))∧Hid (xs[k]? = some x)∧Hid (xs.take (k+1)=xs.take k ++ [x]):=by
 have A3L:=trivial;exact Nc
theorem Vz {l:List Cn} {ch:Int} {k:Nat} {c:Cn} (h:(l.take k).all (fun y => !decide (y.id=ch))=true) (hx:l[k]? = some c) (hc:c.id=ch):D9 l ch=(k:Int):=by
 have:=(IV (p:=fun y:Cn=>decide (y.id=ch)) h hx JM).2.1
 unfold D9;rw [this]
theorem VM {l:List Cn} {ch:Int} (h:l.all (fun y => !decide (y.id=ch))=true):D9 l ch = -1:=by
 have:=(JA (p:=fun y:Cn=>decide (y.id=ch)) h).2.1
 unfold D9;rw [this]
theorem EH {l:List Cn} {ch:Int} (h:AI l ch=true):∃ (i:Nat) (c:Cn),D9 l ch=(i:Int)∧l[i]? = some c∧c.id=ch∧AM l ch=c∧i<l.length:=by
 unfold AI at h;have h1:(l.findIdx? fun c=>decide (c.id=ch)).isSome=true:=RK;have A3M:=trivial;exact RL
theorem IW {l:List Cn} {ch:Int} (h:AI l ch=false):D9 l ch = -1:=by
 refine VM ?_;unfold AI at h;rw [List.any_eq_false] at h;rw [List.all_eq_true];intro y hy;have:=h y hy
 exact Fm
theorem Pj (l:List Cn) (ch:Int):decide (0≤D9 l ch)=AI l ch:=by
 cases h:AI l ch with
 | true=>obtain ⟨i,c,e,-⟩:=EH h;rw [e];exact decide_eq_true oM
 | false=>rw [IW h];rfl
theorem Jy (x y z:Value) (b:Bk) (ch:Int) (w:World) (V:BkV w w x y z b):Calls Tryz.prog 142 #[.agg #[b.tick,b.next,b.wallet,x,y,z],ch] w fun e w'=>e = .returned (D9 b.chans ch)∧Below w w w':=by
 have A3N:=trivial;exact Di
theorem Hi (x y z:Value) (b:Bk) (ch:Int) (w:World) (V:BkV w w x y z b):Calls Tryz.prog 138 #[.agg #[b.tick,b.next,b.wallet,x,y,z],ch] w fun e w'=>e = .returned (D9 b.chans ch)∧Below w w w':=by
 have A3O:=trivial;exact Di
theorem A09 (v:Value) (xs:List Int) (j:Int) (w:World) (V:Cm w w v xs):Calls Tryz.prog 301 #[v,j] w fun e w'=>e = .returned (EU xs j)∧w=w':=by
 obtain ⟨a,n,c,rfl,hc,hnil,F⟩:=V;have I:=Cm.is F;have hl:=I.len;go_enter Tryz.func301,Tryz.ntmps301
 exact Zr
theorem Wy (v:Value) (xs:List Int) (j:Int) (w:World) (V:Cm w w v xs):Calls Tryz.prog 243 #[v,j] w fun e w'=>e = .returned (EU xs j)∧w=w':=by
 obtain ⟨a,n,c,rfl,hc,hnil,F⟩:=V;have I:=Cm.is F;have hl:=I.len;go_enter Tryz.func243,Tryz.ntmps243
 exact Zr
theorem Xn {b:Bk} (P:Pk b) (ch:Int) (k:Nat):0≤((b.htlcs.take k).map (BS ch)).sum∧((b.htlcs.take k).map (BS ch)).sum≤67553994410557440:=by
 have h:=K6 (BS ch) 1125899906842624 oM b.htlcs k (fun x hx=>zl (P.hs x hx) ch);have:=P.h60
 omega
theorem Pq {b:Bk} (P:Pk b) (ch:Int) (k:Nat):0≤((b.htlcs.take k).map (Bb ch)).sum∧((b.htlcs.take k).map (Bb ch)).sum≤67553994410557440:=by
 have h:=K6 (Bb ch) 1125899906842624 oM b.htlcs k (fun x hx=>A0C (P.hs x hx) ch);have:=P.h60
 omega
theorem XO {b:Bk} (P:Pk b) (ch:Int) (k:Nat):0≤((b.circles.take k).map (CY ch)).sum∧((b.circles.take k).map (CY ch)).sum≤45035996273704960:=by
 have h:=K6 (CY ch) 2251799813685248 oM b.circles k (fun x hx=>tj (P.cs x hx) ch);have:=P.c20
 omega
theorem Qh {b:Bk} (P:Pk b) (ch:Int) (k:Nat):0≤((b.circles.take k).map (Bu ch)).sum∧((b.circles.take k).map (Bu ch)).sum≤45035996273704960:=by
 have h:=K6 (Bu ch) 2251799813685248 oM b.circles k (fun x hx=>A0s (P.cs x hx) ch);have:=P.c20
 omega
theorem YD {b:Bk} (P:Pk b) (ch:Int):0≤BJ b ch∧BJ b ch≤112589990684262400:=by
 have h1:=Xn P ch b.htlcs.length;have h2:=XO P ch b.circles.length;rw [List.take_length] at h1 h2;unfold BJ;omega
theorem V7 {b:Bk} (P:Pk b) (ch:Int):0≤BU b ch∧BU b ch≤112589990684262400:=by
 have h1:=Pq P ch b.htlcs.length;have h2:=Qh P ch b.circles.length;rw [List.take_length] at h1 h2;unfold BU;omega
theorem Pk.hmem {b:Bk} (P:Pk b) {k:Nat} {h:Ht} (hx:b.htlcs[k]? = some h):(0≤h.ain∧h.ain≤1125899906842624)∧0≤h.aout∧h.aout≤1125899906842624:=by
 have H:=P.hs h (List.mem_of_getElem? hx);have h1:=H.ain;have h2:=H.o1;have h3:=H.o2;unfold Am at h1;omega
theorem Pk.cmem {b:Bk} (P:Pk b) {k:Nat} {c:Ci} (hx:b.circles[k]? = some c):(0≤c.amt∧c.amt≤1125899906842624)∧0≤c.fee∧c.fee≤1125899906842624:=by
 have H:=P.cs c (List.mem_of_getElem? hx);have h1:=H.amt;have h2:=H.fee;unfold Am at h1 h2;omega
theorem uR (x y z:Value) (b:Bk) (ch:Int) (w:World) (V:BkV w w x y z b) (hP:Pk b):Calls Tryz.prog 143 #[.agg #[b.tick,b.next,b.wallet,x,y,z],ch] w fun e w'=>e = .returned (.tuple #[BJ b ch,BU b ch])∧Below w w w':=by
 have A3P:=trivial;exact Di
theorem A0i (x y z:Value) (b:Bk) (ch:Int) (w:World) (V:BkV w w x y z b) (hP:Pk b):Calls Tryz.prog 139 #[.agg #[b.tick,b.next,b.wallet,x,y,z],ch] w fun e w'=>e = .returned (BJ b ch)∧Below w w w':=by
 have A3Q:=trivial;exact Di
theorem xL (x y z:Value) (b:Bk) (ch:Int) (w:World) (V:BkV w w x y z b) (hP:Pk b):Calls Tryz.prog 236 #[.agg #[b.tick,b.next,b.wallet,x,y,z],ch] w fun e w'=>e = .returned (BU b ch)∧Below w w w':=by
 have A3R:=trivial;exact Di
theorem WW (x y z:Value) (b:Bk) (p q:Int) (bb:Nat) (w:World) (P0:Bx w bb [b.tick,b.next,b.wallet,x,y,z]) (V:BkV w w x y z b):Calls Tryz.prog 300 #[p,q, .pointer (some ⟨bb,0,none⟩)] w fun e w'=>e = .returned (Cp b.chans p q)∧Below w w w':=by
 have A3S:=trivial;exact Zs
theorem Pu (x y z:Value) (b:Bk) (p q:Int) (w:World) (V:BkV w w x y z b):Calls Tryz.prog 245 #[.agg #[b.tick,b.next,b.wallet,x,y,z],p,q] w fun e w'=>e = .returned (Cp b.chans p q)∧Below w w w':=by
 exact Zs
def Pm (n lo hi:Int):Int:=if n<lo then lo else if hi<n then hi else n
theorem IL (n:Int) (w:World):Calls Tryz.prog 239 #[n] w fun e w'=>e = .returned (BI n)∧w=w':=by
 go_enter Tryz.func239,Tryz.ntmps239
 go_wp2_with (((go_at_call 124;refine (Cy _ _ _ _).mono ?_);rintro e w1 ⟨rfl,rfl⟩))
 all_goals
  go_ret
  exact ⟨Ag Zt,rfl⟩
theorem xu (n:Int) (w:World) (hn:AE n):Calls Tryz.prog 267 #[n] w fun e w'=>e = .returned (Co n)∧w=w':=by
 have CS:=fun w=>IL n w;unfold AE at hn;cases hs:BI n
 ·have hr:Hid (Co n=0):=by unfold Hid Co;rw [hs];rfl
  simp only [hs] at CS;clear hs;go_enter Tryz.func267,Tryz.ntmps267
  exact RM
 have A3T:=trivial;exact Zu
theorem yW (n:Int) (w:World) (hn:AE n):Calls Tryz.prog 268 #[n] w fun e w'=>e = .returned (Ch n)∧w=w':=by
 have CS:=fun w=>IL n w;unfold AE at hn;cases hs:BI n
 ·have hr:Hid (Ch n=0):=by unfold Hid Ch;rw [hs];rfl
  simp only [hs] at CS;clear hs;go_enter Tryz.func268,Tryz.ntmps268
  exact RM
 have A3U:=trivial;exact Zv
theorem yZ (n:Int) (w:World) (hn:AE n):Calls Tryz.prog 269 #[n] w fun e w'=>e = .returned (DR n)∧w=w':=by
 have CS:=fun w=>IL n w;unfold AE at hn;cases hs:BI n
 ·have hr:Hid (DR n=0):=by unfold Hid DR;rw [hs];rfl
  simp only [hs] at CS;clear hs;go_enter Tryz.func269,Tryz.ntmps269
  exact RM
 have A3V:=trivial;exact Zw
theorem A0U (n:Int) (y:Bool) (w:World):Calls Tryz.prog 310 #[n,y] w fun e w'=>e = .returned (J3 n y)∧w=w':=by
 have CS:=fun w=>IL n w;have A3W:=trivial;exact Zx
theorem QE (n lo hi:Int) (w:World):Calls Tryz.prog 284 #[n,lo,hi] w fun e w'=>e = .returned (Pm n lo hi)∧w=w':=by
 have hr:=lH (show Pm n lo hi=if n<lo then lo else if hi<n then hi else n from rfl);by_cases h1:n<lo
 ·go_enter Tryz.func284,Tryz.ntmps284
  go_wp2;go_ret;exact ⟨CD (by rw [hr.out,if_pos h1]),rfl⟩
 by_cases h2:hi<n
 ·go_enter Tryz.func284,Tryz.ntmps284
  go_wp2;go_ret;exact ⟨CD (by rw [hr.out,if_neg oM,if_pos h2]),rfl⟩
 go_enter Tryz.func284,Tryz.ntmps284
 go_wp2;go_ret;exact ⟨CD (by rw [hr.out,if_neg oM,if_neg oM]),rfl⟩
theorem IT (n:Int) (w:World):Calls Tryz.prog 235 #[n] w fun e w'=>e = .returned (BI n)∧w=w':=by
 go_enter Tryz.func235,Tryz.ntmps235
 go_wp2_with (fail)
 all_goals
  go_ret
  exact ⟨Ag Zt,rfl⟩
theorem yh (n:Int) (w:World) (hn:AE n):Calls Tryz.prog 249 #[n] w fun e w'=>e = .returned (Co n)∧w=w':=by
 have CS:=fun w=>IT n w;unfold AE at hn;cases hs:BI n
 ·have hr:Hid (Co n=0):=by unfold Hid Co;rw [hs];rfl
  simp only [hs] at CS;clear hs;go_enter Tryz.func249,Tryz.ntmps249
  exact Zy
 exact Zu
theorem A0K (n:Int) (w:World) (hn:AE n):Calls Tryz.prog 250 #[n] w fun e w'=>e = .returned (Ch n)∧w=w':=by
 have CS:=fun w=>IT n w;unfold AE at hn;cases hs:BI n
 ·have hr:Hid (Ch n=0):=by unfold Hid Ch;rw [hs];rfl
  simp only [hs] at CS;clear hs;go_enter Tryz.func250,Tryz.ntmps250
  exact Zy
 exact Zv
theorem xr (n:Int) (w:World) (hn:AE n):Calls Tryz.prog 251 #[n] w fun e w'=>e = .returned (DR n)∧w=w':=by
 have CS:=fun w=>IT n w;unfold AE at hn;cases hs:BI n
 ·have hr:Hid (DR n=0):=by unfold Hid DR;rw [hs];rfl
  simp only [hs] at CS;clear hs;go_enter Tryz.func251,Tryz.ntmps251
  go_wp2_with ((go_at_call 235;refine (CS _).mono ?_;rintro e w1 ⟨rfl,rfl⟩))
  all_goals
   go_ret
   exact ⟨CD JL,rfl⟩
 exact Zw
theorem wo (n:Int) (y:Bool) (w:World):Calls Tryz.prog 304 #[n,y] w fun e w'=>e = .returned (J3 n y)∧w=w':=by
 have CS:=fun w=>IT n w;exact Zx
theorem A2T (size few all sf sa amt:Int) (good:Bool) (w:World) (hb:AE size∧AE few∧AE all∧AE sf∧AE sa∧AE amt):Calls Tryz.prog 309 #[size,few,all,sf,sa,amt,good] w fun e w'=>e = .returned (Cz size few all sf sa amt good)∧w=w':=by
 unfold AE at hb;go_enter Tryz.func309,Tryz.ntmps309
 go_wp2_with fail
 refine (Az size _).mono ?_;have A3X:=trivial;exact Zz
theorem A0o (size few all sf sa amt:Int) (good:Bool) (w:World) (hb:AE size∧AE few∧AE all∧AE sf∧AE sa∧AE amt):Calls Tryz.prog 303 #[size,few,all,sf,sa,amt,good] w fun e w'=>e = .returned (Cz size few all sf sa amt good)∧w=w':=by
 unfold AE at hb;go_enter Tryz.func303,Tryz.ntmps303
 go_wp2_with fail
 refine (BP size _).mono ?_;exact Zz
abbrev K4:=VS Ev.enc 7 Ev.ok
theorem VS.at7 {w:World} {B n c:Nat} {a:Option Addr} {xs:List Ev} (h:K4 w B (.slice a n c) xs) {k:Nat} (hk:k<n):∃ g off x,a=some ⟨g,off,none⟩∧g<B∧x.ok∧w.cell? ⟨g,off+k*7,none⟩=some (.int .i64 x.kind)∧w.cell? ⟨g,off+k*7+1,none⟩=some (.int .i64 x.key)∧w.cell? ⟨g,off+k*7+2,none⟩=some (.int .i64 x.ch)∧w.cell? ⟨g,off+k*7+3,none⟩=some (.int .i64 x.tw)∧w.cell? ⟨g,off+k*7+4,none⟩=some (.int .i64 x.amt)∧w.cell? ⟨g,off+k*7+5,none⟩=some (.int .i64 x.fee)∧w.cell? ⟨g,off+k*7+6,none⟩=some (.bool x.yes)∧Hid (xs[k]? = some x)∧Hid (xs.take (k+1)=xs.take k ++ [x]):=by
 obtain ⟨a',n',c',e,-,-,F⟩:=h
 injection e with e1 e2 e3
 subst e1;subst e2;subst e3;obtain ⟨g,off,x,e,hg,hc,hok,hx,ht⟩:=FS.at_ F hk;exact ⟨g,off,x,e,hg,hok,hc 0 _ rfl,hc 1 _ rfl,hc 2 _ rfl,hc 3 _ rfl,hc 4 _ rfl,hc 5 _ rfl,hc 6 _ rfl,hx,ht⟩
theorem Jh {α:Type} {xs ys:List α} {n:Nat} (hx:xs.length=n) (hy:ys.length=n) (h:xs.take n=ys.take n):xs=ys:=by
 rw [List.take_of_length_le oM,List.take_of_length_le oM] at h;exact h
theorem Uh (va vb:Value) (xs ys:List Ev) (w:World) (V:K4 w w va xs) (U:K4 w w vb ys):Calls Tryz.prog 54 #[va,vb] w fun e w'=>(∃ q,e = .returned (.bool q)∧(q=true↔xs=ys))∧Below w w w':=by
 have A3d:=trivial;exact Z2
theorem xJ (va vb:Value) (xs ys:List Ev) (w:World) (V:K4 w w va xs) (U:K4 w w vb ys):Calls Tryz.prog 45 #[va,vb] w fun e w'=>(∃ q,e = .returned (.bool q)∧(q=true↔xs=ys))∧Below w w w':=by
 exact Z2
section
section
variable {P:Program} (w:World)
theorem WQ (z:Value) (m:Nat):(Builtin.zeroCells #[z] m).toList=List.replicate m z:=by
 have h:=toList_madeCells_one z (m*1);rw [Nat.mul_one] at h
 have e:Builtin.zeroCells #[z] m=madeCells #[z] m:=by
  unfold Builtin.zeroCells madeCells;simp
 rw [e];exact h
theorem zi (base:Nat) (t ti ty e:TypeId) (i:TypeInfo) (z:Value) (ht:P.underlying t=some (.slice e)) (hti:P.underlying ti=some (.int .i64)) (hi:P.info? e=some i) (hz:i.zero=some z)
 (hsize:i.size=1) (hby:i.bytes=1) (hzs:z.cells = #[z]) (hone:z.oneCell'=true)
 (v:Value) (n:Nat) (xs:List Value) (hown:w.ownsRow base e 1 v n xs) (hn0:0<n) (m:Nat) (hm:0<m) (hb:n+m≤1048576) (hbase:base≤w.heap.size) :
 ∃ v' w',(Builtin.append_ #[t,ti] ty #[v,m]).run P w = .ok v' w'∧w'.ownsRow base e 1 v' (n+m) (xs ++ List.replicate m z)∧w.grownBy w' v.ownBlock:=by
 have hw:IntKind.i64.wrap (m:Int)=m:=Ao
 have hlen:(xs ++ List.replicate m z).length=(n+m)*1:=by rw [List.length_append,hown.1,List.length_replicate];omega
 rcases hown.2 with ⟨rfl,rfl⟩ | ⟨g,cap,cur,rfl,hbg,hg,hnc,hcm,hcs,htake⟩
 ·omega
 by_cases hroom:n+m≤cap
 ·have hst:=run_storeCells_at P g (n*1) e (List.replicate m z) 0 cur w hg (by rw [List.length_replicate,hcs];omega) (fun u hu=>by rw [List.eq_of_mem_replicate hu];exact hone);simp only [Nat.add_zero,Nat.mul_one] at hst
  have hr:(Builtin.append_ #[t,ti] ty #[.slice (some ⟨g,0,none⟩) n cap,m]).run P w = .ok (.slice (some ⟨g,0,none⟩) (n+m) cap) (w.setRow g (cur.toList.take n ++ List.replicate m z ++ cur.toList.drop (n+(List.replicate m z).length)).toArray):=by
   have hz2:=WQ z m;have m1:¬ ((m:Int)<0):=AA;have m2:¬ (281474976710656<(m:Int)):=AA;have m3:¬ ((m:Int)≤0):=AA;have m4:¬ (m=0):=AA;simp [Builtin.append_,run_underlying ht,run_underlying hti,sizeOf,typeInfo,zeroValue,hi,hz,hsize,hby,hzs,hw,asInt,asIntOf,hroom,Addr.add_lit,hz2,m1,m2,m3,m4];rw [hst];simp
  refine ⟨_,_,hr,⟨hlen, .inr ⟨g,cap,_,rfl,hbg,setRow_heap w g cur _ e _ hg,hroom,hcm,?_,?_⟩⟩,⟨rfl,rfl,rfl,AP,fun k _ hk=>setRow_other w g k _ (fun e=>hk (by simp [Value.ownBlock,e]))⟩⟩
  ·simp only [List.size_toArray,List.length_append,List.length_take,List.length_drop,Array.length_toList,List.length_replicate];omega
  rw [Nat.mul_one] at htake;rw [htake,← hlen];exact List.take_left
 have holds:∀ j u,xs[j]? = some u→w.cell? ((⟨g,0,none⟩:Addr).add j)=some u:=hown.cells (g:=g) rfl
 have hfo:=run_firstCells_some (P:=P) w.drew 1 n ⟨g,0,none⟩ n cap xs hown.1 (by simpa using holds)
 have hr:(Builtin.append_ #[t,ti] ty #[.slice (some ⟨g,0,none⟩) n cap,m]).run P w =
  .ok (.slice (some ⟨w,0,none⟩) (n+m) (grownCap w (n+m) cap e)) (w.drew.alloc (.cells (xs.toArray ++ (List.replicate m z).toArray ++ Builtin.zeroCells #[z] (grownCap w (n+m) cap e - (n+m))) e)):=by
  have hz2:=WQ z m
  have hz3:Builtin.zeroCells #[z] m=(List.replicate m z).toArray:=by rw [← hz2]
  have m1:¬ ((m:Int)<0):=AA
  have m2:¬ (281474976710656<(m:Int)):=AA
  have m3:¬ ((m:Int)≤0):=AA
  have m4:¬ (m=0):=AA
  have m5:¬ (9223372036854775807<(n:Int)+(m:Int)):=AA
  have m6:¬ (281474976710656<Builtin.nextslicecap (n+m) cap):=by
   (have:=growslice_fits (need:=n+m) (old:=cap) (bytes:=1) oM oM);omega
  simp [Builtin.append_,run_underlying ht,run_underlying hti,sizeOf,typeInfo,zeroValue,hi,hz,hsize,hby,hzs,hw,asInt,asIntOf,hroom,m1,m2,m3,m4,m5,m6,Question.forced,hfo,newRow,grownCap,hz3]
 have hge:=grownCap_ge w (n+m) cap e
 have hcm2:=grownCap_le_maxLen w (n+m) cap e (by unfold maxLen;omega)
 refine ⟨_,_,hr,⟨hlen, .inr ⟨w,_,_,rfl,hbase,heap_alloc_new w.drew _,hge,hcm2,?_,?_⟩⟩,⟨rfl,rfl,rfl,AP,fun k hk _=>heap_alloc_old w.drew _ hk⟩⟩
 ·simp only [Array.size_append,List.size_toArray,size_zeroCells,hown.1,List.length_replicate,List.size_toArray,List.length_cons,List.length_nil];omega
 simp only [Array.toList_append,List.append_assoc]
 rw [← List.append_assoc,← hlen]
 exact List.take_left
theorem yt {ops:Array Oper} {rest:List Oper} {o:Oper} {a:Act} {Q:Exit→Act→World→Prop} (hgd:o.guard=none) (s x:Operand) (t ti:TypeId)
 (ho:o.op = .call {callee := .builtin .append,args := #[s,x],argTypes := #[t,ti]})
 (base:Nat) (e:TypeId) (i:TypeInfo) (z:Value) (ht:P.underlying t=some (.slice e)) (hti:P.underlying ti=some (.int .i64)) (hi:P.info? e=some i) (hz:i.zero=some z)
 (hsize:i.size=1) (hby:i.bytes=1) (hzs:z.cells = #[z]) (hone:z.oneCell'=true)
 (v:Value) (n:Nat) (xs:List Value) (hs:a.eval s=v) (hown:w.ownsRow base e 1 v n xs) (hn0:0<n) (m:Nat) (hx:a.eval x=m) (hm:0<m) (hb:n+m≤1048576) (hbase:base≤w.heap.size)
 (h:∀ v' w',w'.ownsRow base e 1 v' (n+m) (xs ++ List.replicate m z)→w.grownBy w' v.ownBlock→wpList P ops Q rest (a.put o.dst v') w'):wpList P ops Q (o :: rest) a w:=by
 refine wpList_plain hgd fun K hK => ?_
 obtain ⟨v',w',hr,h2,h3⟩:=zi (P:=P) w base t ti o.type e i z ht hti hi hz hsize hby hzs hone v n xs hown hn0 m hm hb hbase
 unfold Oper.wp execOp
 simp only [ho,resolve,invoke,builtin,Sem.run_bind,Sem.run_pure,Result.andThen_ok,List.map_toArray,List.map_cons,List.map_nil,hs,hx,hr]
 exact hK _ _ (h v' w' h2 h3)
end
theorem WU:∀ m:Nat,(List.replicate m (0:UInt8)).flatMap Ba=List.replicate m (Value.int .u8 0)
 | 0=>rfl
 | m+1=>by rw [List.replicate_succ,List.flatMap_cons,WU m,List.replicate_succ];rfl
theorem Yl {ops:Array Oper} {rest:List Oper} {o:Oper} {a:Act} {Q:Exit→Act→World→Prop} {w:World} (hgd:o.guard=none) (s x:Operand)
 (ho:o.op = .call {callee := .builtin .append,args := #[s,x],argTypes := #[161,3]}) (B:Nat) (v:Value) (xs:List UInt8) (hs:a.eval s=v) (hown:AK w B v xs) (hn0:0<xs.length) (m:Nat) (hx:a.eval x=m) (hm:0<m) (hb:xs.length+m≤1048576) (hB:B≤w.heap.size)
 (h:∀ v' w',AK w' B v' (xs ++ List.replicate m 0)→Below B w w'→w.grownBy w' v.ownBlock→wpList Tryz.prog ops Q rest (a.put o.dst v') w'):wpList Tryz.prog ops Q (o :: rest) a w:=by
 obtain ⟨i0,hi,hz0,hz1,hz2⟩:=info_parts Dd
 refine yt w hgd s x 161 3 ho B 5 i0 (.int .u8 0) Tryz.underlying161 Tryz.underlying3 hi hz0 hz1 hz2 rfl rfl v xs.length (xs.flatMap Ba) hs hown hn0 m hx hm hb hB ?_
 intro v' w' h1 h2
 refine h v' w' ?_ (I9 hown h2 hB) h2
 have e:xs.flatMap Ba ++ List.replicate m (Value.int .u8 0)=(xs ++ List.replicate m (0:UInt8)).flatMap Ba:=by
  rw [List.flatMap_append,WU]
 show w'.ownsRow B _ 1 v' (xs ++ List.replicate m (0:UInt8)).length ((xs ++ List.replicate m (0:UInt8)).flatMap Ba)
 rw [← e,List.length_append,List.length_replicate]
 exact h1
end
theorem A0V (n:Nat):(GI n).flatMap Ba=List.replicate n (Value.int .u8 0):=by
 induction n with
 | zero=>rfl
 | succ n ih=>unfold GI at ih ⊢;rw [List.replicate_succ,List.flatMap_cons,ih];rfl
theorem zx {w w1:World} {g:Nat} (h:w1.ownsRow w 5 1 (.slice (some ⟨g,0,none⟩) 128 128) 128 (madeCells (Value.int .u8 0).cells (128*1)).toList):AK w1 w (.slice (some ⟨g,0,none⟩) 128 128) (GI 128):=by
 have e:(madeCells (Value.int .u8 0).cells (128*1)).toList=(GI 128).flatMap Ba:=by
  rw [A0V];exact toList_madeCells_one (.int .u8 0) 128
 rw [e] at h;exact h
theorem yE:GH []=GI 128:=rfl
theorem YU {xs:List UInt8} (h:xs.length≠0):GH xs=xs:=by
 unfold GH;rw [if_neg (fun e=>h EJ)]
def Fd (d:Dk) (i j:Nat):List UInt8:=match (d.dirty.take j).reverse.find? (fun w=>decide (w.at_=(i:Int))) with
 | some w=>w.bytes
 | none=>GH ((d.cells[i]?).getD [])
theorem Wl (d:Dk) (i:Nat):Fd d i d.dirty.length=DG d i:=by
 unfold Fd DG;rw [List.take_length];generalize List.find? _ d.dirty.reverse=o;cases o<;>rfl
theorem tp {d:Dk} {i j:Nat} {x:Wr} (ht:d.dirty.take (j+1)=d.dirty.take j ++ [x]) (hx:x.at_=(i:Int)):Fd d i (j+1)=x.bytes:=by
 unfold Fd;rw [ht,List.reverse_append];simp [hx]
theorem A0q {d:Dk} {i j:Nat} {x:Wr} (ht:d.dirty.take (j+1)=d.dirty.take j ++ [x]) (hx:¬ x.at_=(i:Int)):Fd d i (j+1)=Fd d i j:=by
 unfold Fd;rw [ht,List.reverse_append];simp [hx]
theorem NC {d:Dk} (h:BO d=true):(1≤d.cells.length∧d.cells.length≤600)∧d.dirty.length≤600∧(∀ c∈d.cells,c.length≤128)∧(∀ w∈d.dirty,w.bytes.length=128∧0≤w.at_∧w.at_<(d.cells.length:Int)):=by
 rw [Mw] at h;simp only [Bool.and_eq_true,decide_eq_true_eq,List.all_eq_true] at h;obtain ⟨⟨⟨h1,h2⟩,h3⟩,h4⟩:=h;refine ⟨h1,h2,fun c hc => ?_,fun w hw => ?_⟩
 ·have:=of_decide_eq_true (h3 c hc)
  omega
 have:=of_decide_eq_true (h4 w hw)
 omega
theorem yw (v:Value) (xs:List UInt8) (w:World) (V:Ar w w v xs) (hl:xs.length≤1048576):Calls Tryz.prog 290 #[.agg #[v]] w fun e w'=>(∃ v',e = .returned v'∧AK w' w v' (GH xs))∧Below w w w':=by
 have A3g:=trivial;exact Z5
theorem wH (v:Value) (xs:List UInt8) (w:World) (V:Ar w w v xs) (hl:xs.length≤1048576):Calls Tryz.prog 285 #[v] w fun e w'=>(∃ v',e = .returned v'∧AK w' w v' (GH xs))∧Below w w w':=by
 exact Z5
theorem A1z (v0 v1:Value) (d:Dk) (i:Nat) (w:World) (V:DkV w w v0 v1 d) (hok0:BO d=true) (hi:i<d.cells.length):Calls Tryz.prog 297 #[.agg #[v0,v1],i] w fun e w'=>(∃ v',e = .returned v'∧AK w' w v' (DG d i))∧Below w w w':=by
 have A3h:=trivial;exact Z6
theorem A1n (v0 v1:Value) (d:Dk) (i:Nat) (w:World) (V:DkV w w v0 v1 d) (hok0:BO d=true) (hi:i<d.cells.length):Calls Tryz.prog 217 #[.agg #[v0,v1],i] w fun e w'=>(∃ v',e = .returned (.tuple #[v',true])∧AK w' w v' (DG d i))∧Below w w w':=by
 exact Z6
theorem uG (n:Nat) (h:n<256):be n 1 = [UInt8.ofNat n]:=by
 show [UInt8.ofNat (n / 256 ^ 0 % 256)]=_;rw [Nat.pow_zero,Nat.div_one,Nat.mod_eq_of_lt h]
theorem AK.lit1 (w:World) (b:UInt8) (x:Int) (hx:x=(b.toNat:Int)):AK (w.alloc (.cells #[.int .u8 x] 5)) w (.slice (some ⟨w,0,none⟩) 1 1) [b]:=by
 subst hx;exact ⟨rfl, .inr ⟨w,1, #[.int .u8 b.toNat],rfl,Nat.le_refl _,heap_alloc_new w _,Nat.le_refl _,FD,rfl,rfl⟩⟩
theorem Bx.grownO2 {w w':World} {b:Nat} {r:Option Nat} {L:List Value} (h:Bx w b L) (hg:w.grownBy w' r) (hne:r≠some b):Bx w' b L:=by
 have hlt:=h.lt;have hk:=hg.block b hlt (fun e=>hne e.symm);exact RO
theorem Bx.keepL {w w':World} {B b:Nat} {L:List Value} (h:Bx w b L) (hb:Below B w w') (hlt:b<B):Bx w' b L:=by
 have hk:=hb.block b hlt;exact RO
theorem xt (sq ep:Nat) (body:List UInt8):DD ⟨sq,ep,body⟩=(decide (0≤(sq:Int)∧(sq:Int)≤599) && decide (1≤(ep:Int)∧(ep:Int)≤16000000) && decide (body.length≤100)):=rfl
theorem XS (sq ep:Int) (body:List UInt8):DD ⟨sq,ep,body⟩=(decide (0≤sq∧sq≤599) && decide (1≤ep∧ep≤16000000) && decide (body.length≤100)):=rfl
theorem XQ (sq ep:Int) (v:Value) (body:List UInt8) (w:World) (V:Ar w w v body):Calls Tryz.prog 272 #[.agg #[sq,ep,v]] w fun e w'=>e = .returned (DD ⟨sq,ep,body⟩)∧Below w w w':=by
 have A3i:=trivial;exact Z7
theorem YQ (sq ep:Int) (v:Value) (body:List UInt8) (w:World) (V:Ar w w v body):Calls Tryz.prog 253 #[.agg #[sq,ep,v]] w fun e w'=>e = .returned (DD ⟨sq,ep,body⟩)∧Below w w w':=by
 exact Z7
theorem VW (sq ep:Nat) (v:Value) (body:List UInt8) (w:World) (V:Ar w w v body) (h1:sq≤599) (h2:1≤ep) (h3:ep≤16000000) (h4:body.length≤100):Calls Tryz.prog 160 #[.agg #[sq,ep,v]] w fun e w'=>(∃ v',e = .returned (.tuple #[v',true])∧AK w' w v' (Dv ⟨sq,ep,body⟩))∧Below w w w':=by
 have A3j:=trivial;exact Z8
theorem XL {ops:Array Oper} {o:Oper} {a:Act} {K:Act→World→Prop} {Q:Exit→Act→World→Prop} {E:Prop} {w:World} (hgd:o.guard=none) (s x:Operand)
 (ho:o.op = .call {callee := .builtin .append,args := #[s,x],argTypes := #[161,161]}) (B:Nat) (v:Value) (xs:List UInt8) (hs:a.eval s=v) (hown:AK w B v xs)
 (g:Nat) (y:UInt8) (hx:a.eval x = .slice (some ⟨g,0,none⟩) 1 1) (hy:w.cell? ⟨g,0,none⟩=some (.int .u8 (y.toNat:Int))) (hlen:xs.length≤1048576) (hB:B≤w.heap.size)
 (h:∀ v' w',AK w' B v' (xs ++ [y])→Below B w w'→K (a.put o.dst v') w') :
 if Region.wanted o (yielded ops a.tmps)=true then Oper.wp Tryz.prog o a w K Q else E:=by
 have hw:Region.wanted o (yielded ops a.tmps)=true:=La
 rw [if_pos hw]
 obtain ⟨i0,hi,hz0,hz1,hz2⟩:=info_parts Dd
 refine wp_append_own w s x 161 ho B 5 i0 (.int .u8 0) 1 1 Tryz.underlying161 hi hz0 hz1 hz2 rfl dC v xs.length (xs.flatMap Ba) hs hown ⟨g,0,none⟩ 1 1 (Ba y) hx rfl ?_ (Ed y) ?_ ?_ hB ?_
 ·intro j u hj
  cases j with
  | zero=>simp [Ba] at hj;subst hj;exact hy
  | succ j=>simp [Ba] at hj
 ·exact J7
 ·omega
 intro v' w' h1 h2 _
 refine h v' w' ?_ (I9 hown h2 hB)
 show w'.ownsRow B _ 1 v' (xs ++ [y]).length ((xs ++ [y]).flatMap Ba)
 rw [List.flatMap_append,List.length_append]
 simpa using h1
theorem XE {ops:Array Oper} {o:Oper} {a:Act} {K:Act→World→Prop} {Q:Exit→Act→World→Prop} {E:Prop} {w:World} (hgd:o.guard=none) (s x:Operand)
 (ho:o.op = .call {callee := .builtin .append,args := #[s,x],argTypes := #[161,161]}) (B:Nat) (v:Value) (xs:List UInt8) (hs:a.eval s=v) (hown:AK w B v xs)
 (ad:Addr) (n c:Nat) (ys:List UInt8) (hx:a.eval x = .slice (some ad) n c) (hy:Ar w w (.slice (some ad) n c) ys) (hlen:xs.length≤1048576) (hlen2:ys.length≤1048576) (hB:B≤w.heap.size)
 (h:∀ v' w',AK w' B v' (xs ++ ys)→Below B w w'→K (a.put o.dst v') w') :
 if Region.wanted o (yielded ops a.tmps)=true then Oper.wp Tryz.prog o a w K Q else E:=by
 have hw:Region.wanted o (yielded ops a.tmps)=true:=La
 rw [if_pos hw]
 obtain ⟨i0,hi,hz0,hz1,hz2⟩:=info_parts Dd
 obtain ⟨a',n',c',e,_,_,F⟩:=hy
 injection e with e1 e2 e3
 subst e1;subst e2;subst e3
 have hyl:ys.length=n:=F.1
 refine wp_append_own w s x 161 ho B 5 i0 (.int .u8 0) 1 1 Tryz.underlying161 hi hz0 hz1 hz2 rfl dC v xs.length (xs.flatMap Ba) hs hown ad n c (ys.flatMap Ba) hx (by rw [DN De,hyl]) ?_ ?_ ?_ ?_ hB ?_
 ·intro j u hj;have hlt:j<n:=by have:=(List.getElem?_eq_some_iff.1 hj).1;rw [DN De] at this;omega
  obtain ⟨g,off,y,e,_,hc,hy2,_⟩:=BtF.cell F hlt
  injection e with e
  subst e;have h9:=Km De ys j y 0 _ hy2.out rfl;rw [Nat.mul_one,Nat.add_zero,hj] at h9
  injection h9 with h9
  subst h9;unfold Addr.add;split
  ·rename_i h0;subst h0;exact hc
  exact hc
 ·intro u hu;obtain ⟨y,_,hy2⟩:=List.mem_flatMap.1 hu;exact Ed y u hy2
 ·exact J7
 ·omega
 intro v' w' h1 h2 _
 refine h v' w' ?_ (I9 hown h2 hB)
 show w'.ownsRow B _ 1 v' (xs ++ ys).length ((xs ++ ys).flatMap Ba)
 rw [List.flatMap_append,List.length_append,hyl]
 exact h1
theorem t8 {ops:Array Oper} {o:Oper} {a:Act} {K:Act→World→Prop} {Q:Exit→Act→World→Prop} {E:Prop} {w:World} (hgd:o.guard=none) (s x:Operand)
 (ho:o.op = .call {callee := .builtin .append,args := #[s,x],argTypes := #[161,161]}) (B:Nat) (v:Value) (xs:List UInt8) (hs:a.eval s=v) (hown:AK w B v xs) (hx:a.eval x = .slice none 0 0)
 (h:K (a.put o.dst v) w) :
 if Region.wanted o (yielded ops a.tmps)=true then Oper.wp Tryz.prog o a w K Q else E:=by
 have hw:Region.wanted o (yielded ops a.tmps)=true:=La
 rw [if_pos hw]
 obtain ⟨i0,hi,hz0,hz1,hz2⟩:=info_parts Dd
 have hrun:=run_append_owned_none (P:=Tryz.prog) (w:=w) B 161 o.type 5 i0 1 Tryz.underlying161 hi v xs.length (xs.flatMap Ba) hown
 unfold Oper.wp
 simp [execOp,ho,resolve,invoke,builtin,hs,hx,hrun,Result.andThen]
 exact h
theorem uX (sq ep:Nat) (v:Value) (body:List UInt8) (w:World) (V:Ar w w v body) (h1:sq≤599) (h2:1≤ep) (h3:ep≤16000000) (h4:body.length≤100):Calls Tryz.prog 181 #[.agg #[sq,ep,v]] w fun e w'=>(∃ v',e = .returned (.tuple #[v',true])∧AK w' w v' (Dv ⟨sq,ep,body⟩))∧Below w w w':=by
 exact Z8
theorem we (sq ep:Int) (v:Value) (body:List UInt8) (w:World) (V:Ar w w v body) (h:DD ⟨sq,ep,body⟩=false):Calls Tryz.prog 181 #[.agg #[sq,ep,v]] w fun e w'=>e = .returned (.tuple #[.slice none 0 0,false])∧Below w w w':=by
 obtain ⟨a,n,c,rfl,hn0,-⟩:=VS.form V;clear hn0;have B0:=bA w [sq,ep, .slice a n c] 163;go_enter Tryz.func181,Tryz.ntmps181
 go_wp2_with fail
 refine (XQ sq ep _ body _ (V.keep B0)).mono ?_;rintro e w1 ⟨rfl,b1⟩;rw [h];have B1:=AD b1 B0;clear B0 b1 V;go_wp2_with fail
 refine bodyPost_ret (by simp only [results,Tryz.results181];go_simp;rfl) rfl ?_;exact ⟨rfl,B1⟩
theorem Xu (sq ep:Int) (v:Value) (body:List UInt8) (w:World) (V:Ar w w v body) (h:DD ⟨sq,ep,body⟩=false):Calls Tryz.prog 160 #[.agg #[sq,ep,v]] w fun e w'=>e = .returned (.tuple #[.slice none 0 0,false])∧Below w w w':=by
 obtain ⟨a,n,c,rfl,hn0,-⟩:=VS.form V;clear hn0;have B0:=bA w [sq,ep, .slice a n c] 163;go_enter Tryz.func160,Tryz.ntmps160
 go_wp2_with fail
 refine (YQ sq ep _ body _ (V.keep B0)).mono ?_;rintro e w1 ⟨rfl,b1⟩;rw [h];have B1:=AD b1 B0;clear B0 b1 V;go_wp2_with fail
 refine bodyPost_ret (by simp only [results,Tryz.results160];go_simp;rfl) rfl ?_;exact ⟨rfl,B1⟩
theorem Ar.part {w:World} {B g off n c:Nat} {xs:List UInt8} (V:Ar w B (.slice (some ⟨g,off,none⟩) n c) xs) {lo m:Nat} (h:lo+m≤n):Ar w B (.slice (some ⟨g,off+lo,none⟩) m (c - lo)) (part xs lo m):=by
 obtain ⟨a',n',c',e,hc,hnil,F⟩:=V;have A3k:=trivial;exact DL
theorem Kf {w:World} {B g off n c:Nat} {xs:List UInt8} (V:Ar w B (.slice (some ⟨g,off,none⟩) n c) xs):(convert 161 9 (.slice (some ⟨g,off,none⟩) n c)).run Tryz.prog w = .ok (.string ⟨xs.toArray⟩) w:=by
 obtain ⟨a',n',c',e,hc,hnil,F⟩:=V;have A3l:=trivial;exact DL
theorem Ml (l:List UInt8):(ByteArray.mk l.toArray).toList=l:=by rw [ByteArray.toList_eq]
theorem Bx.set1 {w:World} {b:Nat} {L:List Value} (h:Bx w b L) (j:Nat) (v:Value) (hj:j<L.length):Bx (w.setCell ⟨b,j,none⟩ v) b (L.set j v):=by
 have:=h.set j [v] An
 have e:EY L j [v]=L.set j v:=by unfold EY;rw [List.set_eq_take_append_cons_drop,if_pos hj];rfl
 rw [e] at this;exact this
theorem Bx.otherC {w:World} {b:Nat} {L:List Value} (h:Bx w b L) (b' o:Nat) (v:Value) (hne:b≠b'):Bx (w.setCell ⟨b',o,none⟩ v) b L:=h.other b' o [v] hne
theorem VS.putB {α:Type} {enc:α→List Value} {sz:Nat} {ok:α→Prop} {w:World} {B g o:Nat} {u v:Value} {xs:List α} (h:VS enc sz ok w B u xs) (hB:B≤g):VS enc sz ok (w.setCell ⟨g,o,none⟩ v) B u xs:=h.ex (Ex.setCell (F := [g]) (Ex.refl _ _) sM v) (fun k hk=>JN)
theorem AC.putB {α:Type} {enc:α→List Value} {sz:Nat} {E:TypeId} {w:World} {B g o:Nat} {u v:Value} {xs:List α} (h:AC enc sz E w B u xs) (hB:g<B):AC enc sz E (w.setCell ⟨g,o,none⟩ v) B u xs:=h.kept (Ex.setCell (F := [g]) (Ex.refl _ _) sM v) (fun k hk hm=>by have:=(AC.blk h k hk).1;simp at hm;omega)
def U9 (w':World) (B:Nat) (xs:List UInt8) (e:Ending):Prop :=
 (∃ s v',Ca xs=some s∧e = .returned (.tuple #[.agg #[.int .i64 s.seq, .int .i64 s.epoch,v'],true])∧AK w' B v' s.body)∨(Ca xs=none∧e = .returned (.tuple #[.agg #[I0,I0, .slice none 0 0],false]))
theorem QZ {xs:List UInt8} (h:¬ DE xs 7≤100):Ca xs=none:=by unfold Ca;rw [if_neg (fun e=>h e.2)]
theorem yu {xs:List UInt8} (h:DD (EZ xs)=false):Ca xs=none:=by
 unfold Ca;exact Z9
theorem A2L {xs:List UInt8} (h:Dv (EZ xs)≠xs):Ca xs=none:=by
 unfold Ca;split
 ·rw [if_neg (fun e=>h e.2)]
 rfl
theorem A0y {xs:List UInt8} (h0:xs.length=128) (h1:DE xs 7≤100) (h2:DD (EZ xs)=true) (h3:Dv (EZ xs)=xs):Ca xs=some (EZ xs):=by
 unfold Ca;rw [if_pos ⟨h0,h1⟩,if_pos ⟨h2,h3⟩]
theorem YY {xs:List UInt8} {i n:Nat} (h:i+n≤xs.length):(part xs i n).length=n:=by unfold part;rw [List.length_take,List.length_drop];omega
theorem xl (v:Value) (xs:List UInt8) (w:World) (V:Ar w w v xs) (h128:xs.length=128):Calls Tryz.prog 296 #[v] w fun e w'=>U9 w' w xs e∧Below w w w':=by
 have A3m:=trivial;exact aA
theorem Wx {xs:List UInt8} {k:Nat} {x:UInt8} (hx:xs[k]? = some x):(xs.drop k).take 1 = [x]:=by
 exact aB
theorem yo (xs:List UInt8) (h:7<xs.length):num (part xs 7 1)=DE xs 7:=by
 have hx:xs[7]? = some xs[7]:=List.getElem?_eq_getElem h;unfold DE part;rw [hx,Wx hx];simp [num]
theorem A2M (s:Sc):DE (Dv s) 7=(UInt8.ofNat s.body.length).toNat:=by
 simp [Dv,be,DE]
theorem uO (v:Value) (xs:List UInt8) (w:World) (V:Ar w w v xs) (h128:xs.length=128):Calls Tryz.prog 218 #[v] w fun e w'=>U9 w' w xs e∧Below w w w':=by
 exact aA
theorem BE.at_ {w:World} {B n c:Nat} {a:Option Addr} {xs:List Ln} (h:BE w B (.slice a n c) xs) {k:Nat} (hk:k<n):∃ g off x,a=some ⟨g,off,none⟩∧g<B∧x.ok∧(w.cell? ⟨g,off+k*3,none⟩=some (.int .i64 x.kind)∧w.cell? ⟨g,off+k*3+1,none⟩=some (.int .i64 x.ch)∧w.cell? ⟨g,off+k*3+2,none⟩=some (.int .i64 x.amt))∧Hid (xs[k]? = some x)∧Hid (xs.take (k+1)=xs.take k ++ [x]):=by
 have A30:=trivial;exact Nc
theorem Dh:∀ x:Ln,∀ u∈x.enc,u.oneCell'=true:=fun x u hu=>by
 simp only [Ln.enc,List.mem_cons,List.not_mem_nil,or_false] at hu;rcases hu with rfl | rfl | rfl<;>rfl
theorem Bl.form {w:World} {B:Nat} {v:Value} {xs:List Ln} (h:Bl w B v xs):∃ (a:Option Addr) (c:Nat),v = .slice a xs.length c:=by
 exact Z0
theorem VC {yk yc xk xc:Int} (h:EW yk yc xk xc=false) (hn:¬ (yk=xk∧yc=xc)):EW xk xc yk yc=true:=by
 unfold EW at *;simp at h ⊢;omega
theorem U6 (v:Value) (xs:List Ln) (xk xc xa:Int) (w:World) (V:BE w w v xs) (hn4:xs.length≤100000) (hb:∀ y∈xs,-2305843009213693952≤y.amt∧y.amt≤2305843009213693952) (hx : -2305843009213693952≤xa∧xa≤2305843009213693952) :
 Calls Tryz.prog 164 #[v, .agg #[xk,xc,xa]] w fun e w'=>(∃ v',e = .returned v'∧Bl w' w v' (At xs ⟨xk,xc,xa⟩))∧Below w w w':=by
 obtain ⟨a,n,c,rfl,hn,-⟩:=VS.form V
 rw [hn] at hn4
 have HN:=lH hn
 have HBD:=lH hb
 clear hn hb
 go_enter Tryz.func164,Tryz.ntmps164
 go_upto_region 1 with fail
 refine cW fun w0 X0 B0 => ?_
 have X0l:=X0.lt
 have O1:Bl (w0.alloc (.cells #[] 178)) w0 (.slice (some ⟨w0,0,none⟩) 0 0) []:=AC.made (enc:=Ln.enc) (sz:=3) (E:=178) w0 w0 (Nat.le_refl _)
 have b1:=bA w0 [] 178
 go_upto_region 2 with fail
 generalize w0.alloc (.cells #[] 178)=w1 at O1 b1 ⊢
 go_wp2
 go_loopw [5,6,8,12] (fun out d _ i wr=>∃ (k:Nat) (dn:Bool) (EE:List Ln),k≤n∧i=k∧d=dn∧Bl wr w0 out EE∧Hid (dn=false→At xs ⟨xk,xc,xa⟩=EE ++ At (xs.drop k) ⟨xk,xc,xa⟩)∧Hid (dn=true→At xs ⟨xk,xc,xa⟩=EE ++ xs.drop k)∧EE.length≤k+dn.toNat∧Below w0 w0 wr) (fun _ _ _ i _=>n - (intOf i).toNat)
 case atStart=>exact ⟨0,false,[],Nat.zero_le _,rfl,rfl,O1,fun _=>rfl,Lc,AP,b1⟩
 case round =>
  obtain ⟨k,dn,EE,hk,rfl,rfl,ho,h0,h1,hlen,hB⟩:=hrel;have hBw:=AD hB B0;have X1:=X0.keep hB;obtain ⟨ao,co,rfl⟩:=Bl.form ho;clear O1 b1;by_cases hlt:k<n;rotate_left
  ·cases dn with
   | true =>
    (have hend:Hid (At xs ⟨xk,xc,xa⟩=EE):=by unfold Hid;rw [h1.out rfl,List.drop_of_length_le Cb];simp);clear h0 h1;go_wp2;go_ret;exact ⟨⟨_,rfl,by rw [hend.out];exact AC.le ho oM⟩,hBw⟩
   | false =>
    simp only [Bool.toNat_false] at hlen;(have hend:Hid (At xs ⟨xk,xc,xa⟩=EE ++ [⟨xk,xc,xa⟩]):=by unfold Hid;rw [h0.out rfl,List.drop_of_length_le Cb,GG]);obtain ⟨x0,x1,x2⟩:=X1.c3;clear h0 h1;(go_wp2_with (at_builtin;refine Df DS Tryz.underlying55 rfl dC dC (fun _=>rfl) Dh rfl _ _ rfl w0 _ EE rfl (AC.alloc ho _) _ ⟨xk,xc,xa⟩ rfl (BC _ _ _ rfl) oM (Nat.le_trans hB.size (Aj _ _)) ?_));have A31:=trivial;exact RS
  obtain ⟨g,off,y,rfl,hg,-,⟨c0,c1,c2⟩,hy,ht⟩:=BE.at_ (V.keep hBw) hlt;have hyb:=HBD.out y (List.mem_of_getElem? hy.out);have hdr:=lH (xI hy.out);obtain ⟨yk,yc,ya⟩:=y;dsimp only at c0 c1 c2 hyb;clear hy ht;go_upto_region 6 with fail
  refine cW fun w5 P5 b5 => ?_;have hob:∀ b∈(Value.slice ao EE.length co).ownBlock.toList,b<wr.heap.size:=fun b hb=>(AC.blk ho b hb).2;have ho5:Bl w5 w0 (.slice ao EE.length co) EE:=AC.keep ho b5;have hB5:=AD b5 hB;have X5:=X1.keep b5;have hBw5:=AD b5 hBw;have HOB:=lH hob;have P5l:=P5.lt;have X5l:=X5.lt;clear c0 c1 c2 ho X1 b5 hB hBw hob;obtain ⟨p0,p1,p2⟩:=P5.c3;obtain ⟨x0,x1,x2⟩:=X5.c3
  cases dn with
  | true =>
   simp only [Bool.toNat_true] at hlen;(have hgo:Hid (At xs ⟨xk,xc,xa⟩=(EE ++ [⟨yk,yc,ya⟩]) ++ xs.drop (k+1)):=by unfold Hid;rw [h1.out rfl,hdr.out];simp);clear h0 h1 hdr;(go_wp2_with (at_builtin;refine Df DS Tryz.underlying55 rfl dC dC (fun _=>rfl) Dh rfl _ _ rfl w0 _ EE rfl (AC.alloc ho5 _) _ ⟨yk,yc,ya⟩ rfl (BC _ _ _ rfl) oM (Nat.le_trans hB5.size (Aj _ _)) ?_));have A32:=trivial;exact aX
  | false =>
   simp only [Bool.toNat_false] at hlen
   cases hl:EW yk yc xk xc with
   | true =>
    (have hgo:Hid (At xs ⟨xk,xc,xa⟩=(EE ++ [⟨yk,yc,ya⟩]) ++ At (xs.drop (k+1)) ⟨xk,xc,xa⟩):=by unfold Hid;rw [h0.out rfl,hdr.out,Is _ (show AV ⟨yk,yc,ya⟩ ⟨xk,xc,xa⟩=true from hl)];simp);clear h0 h1 hdr;(go_wp2_with fail);refine (JH yk yc xk xc _).mono ?_;have A33:=trivial;exact Ld
   | false =>
    by_cases hs:yk=xk∧yc=xc
    ·obtain ⟨rfl,rfl⟩:=hs;by_cases hz:ya+xa=0
     ·(have hgo:Hid (At xs ⟨yk,yc,xa⟩=EE ++ xs.drop (k+1)):=by unfold Hid;rw [h0.out rfl,hdr.out,yx _ (show AV ⟨yk,yc,ya⟩ ⟨yk,yc,xa⟩=false from hl) (show AV ⟨yk,yc,xa⟩ ⟨yk,yc,ya⟩=false from hl) hz]);have e1:(ya+xa != 0)=false:=Ek;(have hwz:IntKind.i64.wrap (ya+xa)=0:=by rw [hz];rfl);clear h0 h1 hdr hz;(go_wp2_with fail);refine (JH yk yc yk yc _).mono ?_;have A34:=trivial;exact Ld
     (have hgo:Hid (At xs ⟨yk,yc,xa⟩=(EE ++ [⟨yk,yc,ya+xa⟩]) ++ xs.drop (k+1)):=by unfold Hid;rw [h0.out rfl,hdr.out,yA _ (show AV ⟨yk,yc,ya⟩ ⟨yk,yc,xa⟩=false from hl) (show AV ⟨yk,yc,xa⟩ ⟨yk,yc,ya⟩=false from hl) hz];simp);have e1:(ya+xa != 0)=true:=Ek;clear h0 h1 hdr hz;(go_wp2_with fail);refine (JH yk yc yk yc _).mono ?_;have A35:=trivial;exact Ld
    by_cases hs2:yk=xk
    ·subst hs2;have hs1:¬ yc=xc:=fun e=>hs ⟨rfl,e⟩;have hl2:=VC hl hs;(have hgo:Hid (At xs ⟨yk,xc,xa⟩=((EE ++ [⟨yk,xc,xa⟩]) ++ [⟨yk,yc,ya⟩]) ++ xs.drop (k+1)):=by unfold Hid;rw [h0.out rfl,hdr.out,NL _ (show AV ⟨yk,yc,ya⟩ ⟨yk,xc,xa⟩=false from hl) (show AV ⟨yk,xc,xa⟩ ⟨yk,yc,ya⟩=true from hl2)];simp);have HS1:=lH hs;clear h0 h1 hdr hl2 hs;(go_wp2_with fail);refine (JH yk yc yk xc _).mono ?_;have A36:=trivial;exact Ld
    skip
    have hl2:=VC hl hs;(have hgo:Hid (At xs ⟨xk,xc,xa⟩=((EE ++ [⟨xk,xc,xa⟩]) ++ [⟨yk,yc,ya⟩]) ++ xs.drop (k+1)):=by unfold Hid;rw [h0.out rfl,hdr.out,NL _ (show AV ⟨yk,yc,ya⟩ ⟨xk,xc,xa⟩=false from hl) (show AV ⟨xk,xc,xa⟩ ⟨yk,yc,ya⟩=true from hl2)];simp);have HS1:=lH hs;clear h0 h1 hdr hl2 hs;(go_wp2_with fail);refine (JH yk yc xk xc _).mono ?_;exact Ld
def IB:Value→Nat
 | .slice _ n _=>n
 | _=>0
theorem VS.tail {α:Type} {enc:α→List Value} {sz:Nat} {ok:α→Prop} {w:World} {B g off n c:Nat} {x:α} {xs:List α} (h:VS enc sz ok w B (.slice (some ⟨g,off,none⟩) (n+1) c) (x :: xs)):VS enc sz ok w B (.slice (if c=1 then some ⟨g,off,none⟩ else some ⟨g,off+sz,none⟩) n (c - 1)) xs:=by
 obtain ⟨a',n',c',e,hc,hnil,F⟩:=h;have A37:=trivial;exact DL
theorem Ur (va vb:Value) (la lb:List Ln) (w:World) (VA0:BE w w va la) (VB0:BE w w vb lb) (hla:la.length≤100000) (hlb:lb.length≤100000) (hba0:∀ y∈la,-2305843009213693952≤y.amt∧y.amt≤2305843009213693952) (hbb0:∀ y∈lb,-2305843009213693952≤y.amt∧y.amt≤2305843009213693952) :
 Calls Tryz.prog 185 #[va,vb] w fun e w'=>((Au la lb=true∧∃ v',e = .returned (.tuple #[v',true])∧Bl w' w v' (AN la lb))∨(Au la lb=false∧e = .returned (.tuple #[.slice none 0 0,false])))∧Below w w w':=by
 obtain ⟨aa,na,ca,rfl,hna,-⟩:=VS.form VA0
 obtain ⟨ab,nb,cb,rfl,hnb,-⟩:=VS.form VB0
 go_enter Tryz.func185,Tryz.ntmps185
 go_wp2
 go_loopw [0,1,6,7,43,71] (fun va vb out _ _ _ wr=>∃ (a b EE:List Ln),BE w w va a∧BE w w vb b∧Bl wr w out EE∧Hid (AN la lb=EE ++ AN a b)∧Hid (Au la lb=Au a b)∧EE.length+a.length+b.length≤200000∧Hid (∀ y∈a,-2305843009213693952≤y.amt∧y.amt≤2305843009213693952)∧Hid (∀ y∈b,-2305843009213693952≤y.amt∧y.amt≤2305843009213693952)∧Below w w wr) (fun va vb _ _ _ _ _=>IB va+IB vb)
 case atStart=>exact ⟨la,lb,[],VA0,VB0,AC.nil _ _,rfl,rfl,by simp only [List.length_nil];omega,hba0,hbb0,Below.refl _ _⟩
 case round =>
  obtain ⟨a,b,EE,VA,VB,ho,hgo0,hgk0,hlen,hba1,hbb1,hB⟩:=hrel;obtain ⟨aa,na,ca,rfl,hna,-⟩:=VS.form VA;obtain ⟨ab,nb,cb,rfl,hnb,-⟩:=VS.form VB;obtain ⟨ao,co,rfl⟩:=Bl.form ho;clear VA0 VB0 hba0 hbb0 hla hlb
  cases a with
  | nil =>
   cases b with
   | nil =>
    obtain rfl:na=0:=hna.symm;obtain rfl:nb=0:=hnb.symm;(have hend:Hid (AN la lb=EE):=by unfold Hid;rw [hgo0.out,Ir];simp);(have hok:Hid (Au la lb=true):=by unfold Hid;rw [hgk0.out,Mm]);clear hgo0 hgk0 hna hnb;go_wp2;refine bodyPost_ret (by simp only [results,Tryz.results185];go_simp;rfl) rfl ?_;exact ⟨.inl ⟨hok.out,_,rfl,by rw [hend.out];exact ho⟩,hB⟩
   | cons y b =>
    obtain rfl:na=0:=hna.symm;have A38:=trivial;exact aY
  | cons x a =>
   obtain ⟨n2,rfl⟩:∃ n2,na=n2+1:=⟨a.length,by simpa using hna.symm⟩;have zna:(((n2:Nat):Int)+1 == 0)=false:=Le;have pna:decide ((0:Int)<((n2:Nat):Int)+1)=true:=decide_eq_true oM;obtain ⟨ga,oa,x',e,hga,-,⟨a0,a1,a2⟩,hx,-⟩:=BE.at_ (VA.keep hB) (k:=0) oM;subst e;have hx':x'=x:=(Option.some.inj hx.out).symm;subst hx';obtain ⟨xk,xc,xa⟩:=x';simp only [Nat.zero_mul,Nat.add_zero] at a0 a1 a2;have VA2:=VS.tail VA;clear hx
   cases b with
   | nil =>
    obtain rfl:nb=0:=hnb.symm;(have hgo:Hid (AN la lb=(EE ++ [⟨xk,xc,xa⟩]) ++ AN a []):=by unfold Hid;rw [hgo0.out,Db,Db];simp);(have hgk:Hid (Au la lb=Au a []):=by unfold Hid;rw [hgk0.out,Pn,Pn]);have A39:=trivial;exact RT
   | cons y b =>
    exact aY
section
structure T3 (w0 X:World) (A R O:Nat) (LP LR LO:List Value):Prop where
 p:Bx X A LP
 r:Bx X R LR
 o:Bx X O LO
 b:Below w0 w0 X
section
variable {w0 X X':World} {A R O:Nat} {LP LR LO:List Value}
theorem T3.keep (h:T3 w0 X A R O LP LR LO) (hb:Below X X X'):T3 w0 X' A R O LP LR LO:=⟨h.p.keep hb,h.r.keep hb,h.o.keep hb,AD hb h.b⟩
theorem T3.putO (h:T3 w0 X A R O LP LR LO) (o:Nat) (cs:List Value) (hA:A≠O) (hR:R≠O) (hB:w0.heap.size≤O) (hle:o+cs.length≤LO.length):T3 w0 (X.setCells O o cs) A R O LP LR (EY LO o cs)∧Ex [O] X (X.setCells O o cs)∧(X.setCells O o cs).heap.size=X.heap.size :=
 ⟨⟨h.p.other O o cs hA,h.r.other O o cs hR,h.o.set o cs hle,Kp hB cs _ _ h.b⟩,MR sM cs _ _ _ (Ex.refl _ _),Xp cs _ _ _⟩
theorem T3.swap (h:T3 w0 X A R O LP LR LO):T3 w0 X A O R LP LO LR:=⟨h.p,h.o,h.r,h.b⟩
theorem Eb {F:List Nat} {B N O:Nat} (h:∀ k∈F,B≤k∧k<N) (hO:O<B):∀ k∈F,k ∉ [O]:=fun k hk hm=>by
 have:=(h k hk).1
 simp at hm;omega
theorem Bx.rng {w:World} {b:Nat} {L:List Value} (h:Bx w b L):w.rangeAt b 0 L:=h.range 0 L sM
theorem ye {P:Program} {c:Code} {Q:Exit→Act→World→Prop} {a:Act} {w:World} {t1 t2 t3:TypeId} {x1 x2 x3:Value} {L1 L2 L3:List Value} (h:∀ X,T3 w X w (w.heap.size+1) (w.heap.size+1+1) (x1 :: L1) (x2 :: L2) (x3 :: L3)→X.heap.size=w.heap.size+3→c.wp P Q a X) :
 c.wp P Q a (((w.alloc (.cells (x1 :: L1).toArray t1)).alloc (.cells (x2 :: L2).toArray t2)).alloc (.cells (x3 :: L3).toArray t3)) :=
 h _ ⟨((Bx.new w (x1 :: L1).toArray t1 (x1 :: L1) rfl sM _ rfl).alloc _).alloc _,(Bx.new _ (x2 :: L2).toArray t2 (x2 :: L2) rfl sM _ sM).alloc _,Bx.new _ (x3 :: L3).toArray t3 (x3 :: L3) rfl sM _ sM,Ae (Ae (Ae (Below.refl _ _) _) _) _⟩ sM
theorem I7 {ops:Array Oper} {Q:Exit→Act→World→Prop} {rest:List Oper} {op:Oper} {a:Act} (hT:T3 w0 X A R O LP LR LO) (hA:A≠O) (hR:R≠O) (hB:w0.heap.size≤O) {ty:TypeId} {n:Nat} (hi:(Tryz.prog.info? ty).map (·.size)=some n) (hgd:op.guard=none) (x y:Operand) (ho:op.op = .store ty x y)
 {o:Nat} {cs:List Value} (hx:a.eval x = .pointer (some ⟨O,o,none⟩)) (hy:a.eval y = .agg cs.toArray) (hle:o+n≤LO.length) (hn:cs.length=n) (h1:cs.all (fun v=>v.oneCell')=true)
 (h:∀ X',T3 w0 X' A R O LP LR (EY LO o cs)→Ex [O] X X'→X'.heap.size=X.heap.size→wpList Tryz.prog ops Q rest (a.put op.dst undef) X'):wpList Tryz.prog ops Q (op :: rest) a X:=by
 obtain ⟨h2,h3,h4⟩:=hT.putO o cs hA hR hB (by rw [hn];exact hle)
 exact M6 hi hgd x y ho O o cs hx hy (hT.o.there o n hle) hn (fun v hv=>List.all_eq_true.1 h1 v hv) (h _ h2 h3 h4)
theorem Jj {ops:Array Oper} {Q:Exit→Act→World→Prop} {rest:List Oper} {op:Oper} {a:Act} (hT:T3 w0 X A R O LP LR LO) (hA:A≠R) (hR:O≠R) (hB:w0.heap.size≤R) {ty:TypeId} {n:Nat} (hi:(Tryz.prog.info? ty).map (·.size)=some n) (hgd:op.guard=none) (x y:Operand) (ho:op.op = .store ty x y)
 {o:Nat} {cs:List Value} (hx:a.eval x = .pointer (some ⟨R,o,none⟩)) (hy:a.eval y = .agg cs.toArray) (hle:o+n≤LR.length) (hn:cs.length=n) (h1:cs.all (fun v=>v.oneCell')=true)
 (h:∀ X',T3 w0 X' A R O LP (EY LR o cs) LO→Ex [R] X X'→X'.heap.size=X.heap.size→wpList Tryz.prog ops Q rest (a.put op.dst undef) X'):wpList Tryz.prog ops Q (op :: rest) a X :=
 I7 hT.swap hA hR hB hi hgd x y ho hx hy hle hn h1 (fun X' h2=>h X' h2.swap)
end
theorem YG (v0 v1:Value) (d:Dk) (w:World) (V:DkV w w v0 v1 d) (hB:Jl d):Calls Tryz.prog 49 #[.agg #[v0,v1]] w fun e w'=>(∃ (F:List Nat) (u0 u1:Value),e = .returned (.agg #[u0,u1])∧C0 F w' w u0 u1 d)∧Below w w w':=by
 go_enter Tryz.func49,Tryz.ntmps49
 have A4C:=trivial;exact RW
theorem A2C (v0 v1:Value) (l:Lo) (w:World) (V:LoV w w v0 v1 l) (hB:Jl l.disk):Calls Tryz.prog 78 #[.agg #[v0,v1,l.next,l.epoch]] w fun e w'=>(∃ (F:List Nat) (u0 u1:Value),e = .returned (.agg #[u0,u1,l.next,l.epoch])∧Dg F w' w u0 u1 l)∧Below w w w':=by
 go_enter Tryz.func78,Tryz.ntmps78
 have A4D:=trivial;exact RW
theorem xi (x y z:Value) (b:Bk) (w:World) (V:BkV w w x y z b) (hB:Qk b):Calls Tryz.prog 79 #[.agg #[b.tick,b.next,b.wallet,x,y,z]] w fun e w'=>(∃ (F:List Nat) (u0 u1 u2:Value),e = .returned (.agg #[b.tick,b.next,b.wallet,u0,u1,u2])∧Ai F w' w u0 u1 u2 b)∧Below w w w':=by
 go_enter Tryz.func79,Tryz.ntmps79
 go_upto_region 5 with fail
 have A4E:=trivial;exact RZ
theorem zb (v:Value) (l:Lg) (w:World) (V:LgV w w v l) (hB:Qe l):Calls Tryz.prog 80 #[.agg #[l.last,v]] w fun e w'=>(∃ (F:List Nat) (u0:Value),e = .returned (.agg #[l.last,u0])∧As F w' w u0 l)∧Below w w w':=by
 go_enter Tryz.func80,Tryz.ntmps80
 have A4F:=trivial;exact ag
theorem A1g (c d x y z l p q:Value) (h:Hb) (w:World) (V:HbV w w c d x y z l p q h) (hB:Kk h):Calls Tryz.prog 20 #[.agg #[c,d,h.log.next,h.log.epoch,h.book.tick,h.book.next,h.book.wallet,x,y,z,h.ledger.last,l,p,q]] w fun e w'=>(∃ (F:List Nat) (c2 d2 x2 y2 z2 l2 p2 q2:Value),e = .returned (.agg #[c2,d2,h.log.next,h.log.epoch,h.book.tick,h.book.next,h.book.wallet,x2,y2,z2,h.ledger.last,l2,p2,q2])∧DZ F w' w c2 d2 x2 y2 z2 l2 p2 q2 h)∧Below w w w':=by
 go_enter Tryz.func20,Tryz.ntmps20
 exact RW
theorem Jg (c d x y z l p q c2 d2 t s k:Value) (W:Wd) (w:World) (V:WdV w w c d x y z l p q c2 d2 t s k W) (hB:Jp W):Calls Tryz.prog 11 #[.agg #[W.up,c,d,W.hub.log.next,W.hub.log.epoch,W.hub.book.tick,W.hub.book.next,W.hub.book.wallet,x,y,z,W.hub.ledger.last,l,p,q,c2,d2,t,s,k]] w fun e w'=>(∃ (F:List Nat) (c' d' x' y' z' l' p' q' c2' d2' t' s' k':Value),e = .returned (.agg #[W.up,c',d',W.hub.log.next,W.hub.log.epoch,W.hub.book.tick,W.hub.book.next,W.hub.book.wallet,x',y',z',W.hub.ledger.last,l',p',q',c2',d2',t',s',k'])∧WdO F w' w c' d' x' y' z' l' p' q' c2' d2' t' s' k' W)∧Below w w w':=by
 go_enter Tryz.func11,Tryz.ntmps11
 exact ag
end
def Fc (l:List Ht) (key:Int):Int:=match l.findIdx? fun x=>decide (x.key=key) with
 | some i=>(i:Int)
 | none => -1
theorem Vc {l:List Ht} {key:Int} {k:Nat} {c:Ht} (h:(l.take k).all (fun y => !decide (y.key=key))=true) (hx:l[k]? = some c) (hc:c.key=key):Fc l key=(k:Int):=by
 have:=(IV (p:=fun y:Ht=>decide (y.key=key)) h hx JM).2.1
 unfold Fc;rw [this]
theorem Ui {l:List Ht} {key:Int} (h:l.all (fun y => !decide (y.key=key))=true):Fc l key = -1:=by
 have:=(JA (p:=fun y:Ht=>decide (y.key=key)) h).2.1
 unfold Fc;rw [this]
theorem XR {b:Bk} {key:Int} (h:Aw b key=true):∃ (i:Nat) (c:Ht),Fc b.htlcs key=(i:Int)∧b.htlcs[i]? = some c∧c.key=key∧Ac b key=c∧i<b.htlcs.length:=by
 unfold Aw at h;have h1:(b.htlcs.findIdx? fun c=>decide (c.key=key)).isSome=true:=RK;have A4H:=trivial;exact RL
theorem WO {b:Bk} {key:Int} (h:Aw b key=false):Fc b.htlcs key = -1:=by
 refine Ui ?_;unfold Aw at h;exact aj
theorem A2G (b:Bk) (key:Int):decide (0≤Fc b.htlcs key)=Aw b key:=by
 cases h:Aw b key with
 | true=>obtain ⟨i,c,e,-⟩:=XR h;rw [e];simp
 | false=>rw [WO h];rfl
def Fe (l:List Ci) (key:Int):Int:=match l.findIdx? fun x=>decide (x.key=key) with
 | some i=>(i:Int)
 | none => -1
theorem YF {l:List Ci} {key:Int} {k:Nat} {c:Ci} (h:(l.take k).all (fun y => !decide (y.key=key))=true) (hx:l[k]? = some c) (hc:c.key=key):Fe l key=(k:Int):=by
 have:=(IV (p:=fun y:Ci=>decide (y.key=key)) h hx JM).2.1
 unfold Fe;rw [this]
theorem Ye {l:List Ci} {key:Int} (h:l.all (fun y => !decide (y.key=key))=true):Fe l key = -1:=by
 have:=(JA (p:=fun y:Ci=>decide (y.key=key)) h).2.1
 unfold Fe;rw [this]
theorem Vl {b:Bk} {key:Int} (h:Ay b key=true):∃ (i:Nat) (c:Ci),Fe b.circles key=(i:Int)∧b.circles[i]? = some c∧c.key=key∧AW b key=c∧i<b.circles.length:=by
 unfold Ay at h;have h1:(b.circles.findIdx? fun c=>decide (c.key=key)).isSome=true:=RK;exact RL
theorem Un {b:Bk} {key:Int} (h:Ay b key=false):Fe b.circles key = -1:=by
 refine Ye ?_;unfold Ay at h;exact aj
theorem A2U (b:Bk) (key:Int):decide (0≤Fe b.circles key)=Ay b key:=by
 cases h:Ay b key with
 | true=>obtain ⟨i,c,e,-⟩:=Vl h;rw [e];simp
 | false=>rw [Un h];rfl
theorem YH (x y z:Value) (b:Bk) (key:Int) (w:World) (V:BkV w w x y z b):Calls Tryz.prog 266 #[.agg #[b.tick,b.next,b.wallet,x,y,z],key] w fun e w'=>e = .returned (Fc b.htlcs key)∧Below w w w':=by
 have A4I:=trivial;exact Di
theorem YA (x y z:Value) (b:Bk) (key:Int) (w:World) (V:BkV w w x y z b):Calls Tryz.prog 270 #[.agg #[b.tick,b.next,b.wallet,x,y,z],key] w fun e w'=>e = .returned (Fe b.circles key)∧Below w w w':=by
 have A4J:=trivial;exact Di
theorem vY (x y z:Value) (b:Bk) (key:Int) (w:World) (V:BkV w w x y z b):Calls Tryz.prog 262 #[.agg #[b.tick,b.next,b.wallet,x,y,z],key] w fun e w'=>e = .returned (.bool (Aw b key || Ay b key))∧Below w w w':=by
 have A4K:=trivial;exact Di
theorem XI {b:Bk} {ch:Int} {k:Nat} {x:Ht} (hx:b.htlcs[k]? = some x) (h:x.inn=ch∨x.out=ch):DH b ch=true:=by
 unfold DH;rw [QU (p:=fun y:Ht=>decide (y.inn=ch∨y.out=ch)) hx EK];rfl
theorem YJ {b:Bk} {ch:Int} {k:Nat} {x:Ci} (hx:b.circles[k]? = some x) (h:x.frm=ch∨x.tw=ch):DH b ch=true:=by
 unfold DH;rw [QU (p:=fun y:Ci=>decide (y.frm=ch∨y.tw=ch)) hx EK];simp
theorem A1V (x y z:Value) (b:Bk) (ch:Int) (w:World) (V:BkV w w x y z b):Calls Tryz.prog 261 #[.agg #[b.tick,b.next,b.wallet,x,y,z],ch] w fun e w'=>e = .returned (DH b ch)∧Below w w w':=by
 have A4L:=trivial;exact Di
theorem A08 (x y z:Value) (b:Bk) (ch:Int) (w:World) (V:BkV w w x y z b):Calls Tryz.prog 242 #[.agg #[b.tick,b.next,b.wallet,x,y,z],ch] w fun e w'=>e = .returned (DH b ch)∧Below w w w':=by
 have A4M:=trivial;exact Di
def Af (b:Bk) (e:Ev):Bool:=decide (b.next=1125899906842624) || (if e.kind=1 then decide (1125899906842624<b.wallet+e.amt) else if e.kind=2 then decide (1125899906842624<e.amt+e.fee) else if e.kind=3 then AI b.chans e.ch && decide (1125899906842624<b.wallet+(AM b.chans e.ch).loc - e.fee) else if e.kind=8 then decide (b.tick=1125899906842624) else false)
theorem xp (x y z:Value) (b:Bk) (kd ky ch tt am fe:Int) (ys:Bool) (w:World) (V:BkV w w x y z b) (hw:0≤b.wallet∧b.wallet≤1125899906842624) (ha:0≤am∧am≤1125899906842624) (hf:0≤fe∧fe≤1125899906842624) (hl:∀ c∈b.chans,0≤c.loc∧c.loc≤1125899906842624):Calls Tryz.prog 170 #[.agg #[b.tick,b.next,b.wallet,x,y,z], .agg #[kd,ky,ch,tt,am,fe,ys]] w fun e w'=>e = .returned (Af b ⟨kd,ky,ch,tt,am,fe,ys⟩)∧Below w w w':=by
 have A4a:=trivial;exact Di
def Cf {α:Type} (f:α→α) (l:List α) (k:Nat):List α:=(l.take k).map f ++ l.drop k
theorem MS {α:Type} (f:α→α) (l:List α):Cf f l 0=l:=by simp [Cf]
theorem Vh {α:Type} (f:α→α) (l:List α) {k:Nat} (h:l.length≤k):Cf f l k=l.map f:=by
 unfold Cf;rw [List.take_of_length_le h,List.drop_eq_nil_of_le h,List.append_nil]
theorem zL {α:Type} (f:α→α) (l:List α) (k:Nat):(Cf f l k).length=l.length:=by
 unfold Cf;rw [List.length_append,List.length_map,List.length_take,List.length_drop];omega
theorem wM {α:Type} (f:α→α) (l:List α) (k:Nat):(Cf f l k)[k]? = l[k]? := by
 unfold Cf;by_cases h:k<l.length
 ·rw [List.getElem?_append_right (by rw [List.length_map,List.length_take];omega),List.length_map,List.length_take,Nat.min_eq_left oM,Nat.sub_self,List.getElem?_drop,Nat.add_zero]
 rw [List.getElem?_eq_none (by rw [List.length_append,List.length_map,List.length_take,List.length_drop];omega),List.getElem?_eq_none oM]
theorem Vn {α:Type} (f:α→α) (l:List α) {k:Nat} {x:α} (hx:l[k]? = some x):(Cf f l k).set k (f x)=Cf f l (k+1):=by
 have hlt:=(List.getElem?_eq_some_iff.1 hx).1;unfold Cf;rw [List.set_append_right _ _ (by rw [List.length_map,List.length_take];omega),List.length_map,List.length_take,Nat.min_eq_left oM,Nat.sub_self];rw [List.take_add_one,hx];obtain ⟨h,e⟩:=List.getElem?_eq_some_iff.1 hx;rw [List.drop_eq_getElem_cons hlt,List.set_cons_zero];simp
def Pw (ch:Int) (s:Int × Int × Int × Int) (h:Ht):Int × Int × Int × Int:=if h.out=ch then (if h.kept=true then (s.1,s.2.1+h.aout,s.2.2.1,s.2.2.2+1) else (s.1+h.aout,s.2.1+h.aout,s.2.2.1+1,s.2.2.2+1)) else s
theorem Pr {l:List Ht} {k:Nat} {x:Ht} (ch:Int) (ht:l.take (k+1)=l.take k ++ [x]):Bp (l.take (k+1)) ch=Pw ch (Bp (l.take k) ch) x:=by
 unfold Bp;rw [ht,List.foldl_append];rfl
theorem Qj (l:List Ht) (ch:Int) (H:∀ h∈l,0≤h.aout∧h.aout≤1125899906842624):∀ k:Nat,k≤l.length→(0≤(Bp (l.take k) ch).1∧(Bp (l.take k) ch).1≤1125899906842624*(k:Int))∧(0≤(Bp (l.take k) ch).2.1∧(Bp (l.take k) ch).2.1≤1125899906842624*(k:Int))∧(0≤(Bp (l.take k) ch).2.2.1∧(Bp (l.take k) ch).2.2.1≤(k:Int))∧(0≤(Bp (l.take k) ch).2.2.2∧(Bp (l.take k) ch).2.2.2≤(k:Int))
 | 0,_=>by simp [Bp]
 | k+1,hk=>by
  have ih:=Qj l ch H k oM;have hx:=H l[k] (List.getElem_mem _);rw [Pr ch (List.take_succ_eq_append_getElem (show k<l.length by omega))];generalize Bp (l.take k) ch=s at ih ⊢;obtain ⟨s1,s2,s3,s4⟩:=s;try dsimp only at ih
  unfold Pw;split
  ·split
   ·exact Rh
   exact Rh
  exact Rh
theorem A1h (x y z:Value) (b:Bk) (i0 i1 i2 i3 i4 i5 i6 o0 o1 o2 o3 o4 o5 o6 amt:Int) (ys:Bool) (w:World) (V:BkV w w x y z b) (hB:∀ h∈b.htlcs,0≤h.aout∧h.aout≤1125899906842624) (h60:b.htlcs.length≤60) (hI:AE o1∧AE amt):Calls Tryz.prog 247 #[.agg #[b.tick,b.next,b.wallet,x,y,z], .agg #[i0,i1,i2,i3,i4,i5,i6], .agg #[o0,o1,o2,o3,o4,o5,o6],amt,ys] w fun e w'=>e = .returned (ED b ⟨i0,i1,i2,i3,i4,i5,i6⟩ ⟨o0,o1,o2,o3,o4,o5,o6⟩ o0 amt ys)∧Below w w w':=by
 exact Di
section
open Go.ChangeShapes Go.WideShapes Go.ChangeAt Go.RowKit Go.Joins Go.Deep
def Jv (P:Program):Nat→TypeId→Nat→List (Nat × TypeId)
 | 0,t,o => [(o,t)]
 | n+1,t,o=>match P.underlying t with
  | some (.struct fs)=>fs.toList.flatMap fun f=>if f.offset+P.cellsOf f.type≤P.cellsOf t then Jv P n f.type (o+f.offset) else []
  | _ => [(o,t)]
theorem VU {α:Type} {l m:List α} (hl:l.length=m.length) (h:∀ j,j<m.length→l[j]? = m[j]?):l=m:=by
 apply List.ext_getElem?;intro j;rcases Nat.lt_or_ge j m.length with hj | hj
 ·exact h j hj
 rw [List.getElem?_eq_none hj,List.getElem?_eq_none oM]
section
variable {H:Type} {enc:TypeId × Value→H} {P:Program} {w:World} {base:Nat} {spare:Nat→Bool} {held:Bool}
theorem Qp:∀ (n:Nat) (t:TypeId) (o fuel:Nat) (cs:List Value) (x:DataW H × List MemPlace),DataW.trod enc P w base spare held fuel t ((cs.drop o).take (P.cellsOf t))=some x →
 ∀ j u,(j,u)∈Jv P n t o→∃ m y,DataW.trod enc P w base spare held m u ((cs.drop j).take (P.cellsOf u))=some y
 | 0,t,o,fuel,cs,x,h,j,u,hm=>by
  simp [Jv] at hm;obtain ⟨rfl,rfl⟩:=hm;exact ⟨_,_,h⟩
 | n+1,t,o,fuel,cs,x,h,j,u,hm=>by
  unfold Jv at hm;split at hm
  ·rename_i fs ht;obtain ⟨xs,k,_,_,_,hlen,hf⟩:=DataW.trod_struct ht h;obtain ⟨f,hfm,hj⟩:=List.mem_flatMap.1 hm;split at hj
   ·rename_i hle;obtain ⟨i,hi,hif⟩:=List.getElem_of_mem hfm;have h1:=hf i f (by rw [← hif];simp);have h2:xs[i]? = some (xs[i]'(by simp at hi;omega)):=List.getElem?_eq_getElem (by simp at hi;omega);rw [h2] at h1
    have e:List.take (P.cellsOf f.type) (List.drop f.offset (List.take (P.cellsOf t) (List.drop o cs)))=(cs.drop (o+f.offset)).take (P.cellsOf f.type):=by
     rw [List.drop_take,List.drop_drop,List.take_take,Nat.min_eq_left oM]
    rw [e] at h1;exact Qp n f.type (o+f.offset) k cs _ h1 j u hj
   simp at hj
  simp at hm;obtain ⟨rfl,rfl⟩:=hm;exact ⟨_,_,h⟩
theorem Xy {r:Reach} {b0 n:Nat} {t:TypeId} {fs:Array Field} {v:Value} {d:DataW H} {p:List MemPlace} {L:List (Nat × TypeId)} (hs:P.underlying t=some (.struct fs)) (hL:Jv P n t 0=L)
 (hone:(L.all fun q=>decide (P.cellsOf q.2=1∧q.1<P.cellsOf t))=true) (hv:Value.okWide P w r b0 t v) (h:DataW.Trod enc P w base spare held t v d p) :
 ∃ (cs:List Value),v = .agg cs.toArray∧cs.length=P.cellsOf t ∧
  ∀ (j:Nat) (u:TypeId),(j,u)∈L→∃ (n:Nat) (c:Value) (y:DataW H × List MemPlace),cs[j]? = some c∧DataW.trod enc P w base spare held n u [c]=some y:=by
 obtain ⟨cs,rfl,hsz⟩:=okWide_struct hs hv
 obtain ⟨l⟩:=cs
 have hl:l.length=P.cellsOf t:=by simpa using hsz
 obtain ⟨fuel,hf⟩:=h
 refine ⟨l,rfl,hl,fun j u hj => ?_⟩
 have hq:=of_decide_eq_true (List.all_eq_true.1 hone _ hj)
 have hf':DataW.trod enc P w base spare held fuel t ((l.drop 0).take (P.cellsOf t))=some (d,p):=by
  rw [List.drop_zero,List.take_of_length_le oM];exact hf
 obtain ⟨m,y,hy⟩:=Qp n t 0 fuel l (d,p) hf' j u (by rw [hL];exact hj)
 have hjl:j<l.length:=by have:=hq.2;simp only at this;omega
 rw [show P.cellsOf u=1 from hq.1,List.drop_eq_getElem_cons hjl] at hy
 exact ⟨m,l[j],y,List.getElem?_eq_getElem hjl,hy⟩
theorem BK {u e:TypeId} {n:Nat} {c:Value} {y:DataW H × List MemPlace} (hu:P.underlying u=some (.slice e)) (h:DataW.trod enc P w base spare held n u [c]=some y) :
 ∃ a len cap,c = .slice a len cap∧DataW.Trod enc P w base spare held u (.slice a len cap) y.1 y.2:=by
 rcases DataW.trod_slice hu h with ⟨hc,_⟩ | ⟨a,len,cap,_,_,_,_,hc,_⟩
 ·simp at hc;subst hc;exact ⟨_,_,_,rfl,n,h⟩
 simp at hc
 subst hc
 exact ⟨_,_,_,rfl,n,h⟩
end
section
variable {H:Type} {enc:TypeId × Value→H} {P:Program} {w:World} {base:Nat} {held:Bool}
theorem Bt {t e:TypeId} {a:Option Addr} {len cap:Nat} {d:DataW H} {p:List MemPlace} (ht:P.underlying t=some (.slice e))
 (h:DataW.Trod enc P w base (fun _=>true) held t (.slice a len cap) d p):len≤cap∧(a=none→cap=0):=by
 obtain ⟨fuel,hf⟩:=h
 rcases Go.Deep.open_slice ht hf with ⟨hcs,_⟩ | ⟨a',len',cap',m,n,D,Pl,hcs,_,hl,hm,hmm,_,hi⟩
 ·simp [Value.cells] at hcs;obtain ⟨rfl,rfl,rfl⟩:=hcs;exact ⟨Nat.le_refl _,fun _=>rfl⟩
 simp [Value.cells] at hcs
 obtain ⟨rfl,rfl,rfl⟩:=hcs
 exact ⟨hl,fun e=>Gj⟩
theorem Cd {n:Nat} {t e:TypeId} {L:List (Nat × TypeId)} {fs:Array Field} {a:Option Addr} {len cap:Nat} {d:DataW H} {p:List MemPlace} (ht:P.underlying t=some (.slice e)) (he:P.underlying e=some (.struct fs)) (hL:Jv P n e 0=L)
 (hone:(L.all fun q=>decide (P.cellsOf q.2=1∧q.1<P.cellsOf e))=true) (hpos:0<P.cellsOf e)
 (h:DataW.Trod enc P w base (fun _=>true) held t (.slice a len cap) d p):len≤maxLen∧∀ i,i<len→∃ (b off:Nat) (cs:List Value),a=some ⟨b,off,none⟩∧b<w.heap.size∧cs.length=P.cellsOf e∧(∀ j v,cs[j]? = some v→w.cell? ⟨b,off+i*P.cellsOf e+j,none⟩=some v) ∧
  ∀ (j:Nat) (u:TypeId),(j,u)∈L→∃ (n:Nat) (c:Value) (y:DataW H × List MemPlace),cs[j]? = some c∧DataW.trod enc P w base (fun _=>true) held n u [c]=some y:=by
 obtain ⟨fuel,hf⟩:=h
 rcases Go.Deep.open_slice ht hf with ⟨hcs,_⟩ | ⟨a',len',cap',m,n',D,Pl,hcs,_,hl,hm,hmm,_,hi⟩
 ·simp [Value.cells] at hcs;obtain ⟨rfl,rfl,rfl⟩:=hcs;exact ⟨FD,fun i h=>AA⟩
 simp [Value.cells] at hcs
 obtain ⟨rfl,rfl,rfl⟩:=hcs
 simp at hmm
 subst hmm
 refine ⟨Nat.le_trans hl hm,fun i hlt => ?_⟩
 obtain ⟨cs,hc,htr⟩:=hi i oM
 obtain ⟨_,hcl,hat⟩:=World.cells?_some hc
 have hspot:a'.spot=none:=by
  have h0:=hat 0 hpos;rw [List.getElem?_eq_getElem oM] at h0;rw [Go.Deep.add_add] at h0;have hs:=World.cell?_spot h0;unfold Addr.add at hs;split at hs
  ·exact hs
  rename_i hne;have h00:=hi 0 oM;obtain ⟨cs0,hc0,_⟩:=h00;obtain ⟨_,hcl0,hat0⟩:=World.cells?_some hc0;have h1:=hat0 0 hpos;rw [List.getElem?_eq_getElem oM] at h1;have hs1:=World.cell?_spot h1;simpa [Addr.add] using hs1
 obtain ⟨b,off,spot⟩:=a'
 simp only at hspot
 subst hspot
 have hcell:∀ j v,cs[j]? = some v→w.cell? ⟨b,off+i*P.cellsOf e+j,none⟩=some v:=by
  intro j v hv;have hj:j<P.cellsOf e:=by have:=(List.getElem?_eq_some_iff.1 hv).1;omega
  have:=hat j hj
  rw [Go.Deep.add_add,Go.WideShapes.add_plain,hv] at this;rw [← this,Nat.add_assoc]
 refine ⟨b,off,cs,rfl,WP (hcell 0 _ (List.getElem?_eq_getElem oM)),hcl,hcell,fun j u hj => ?_⟩
 have hq:=of_decide_eq_true (List.all_eq_true.1 hone _ hj)
 have htr':DataW.trod enc P w base (fun _=>true) held n' e ((cs.drop 0).take (P.cellsOf e))=some (D i,Pl i):=by
  rw [List.drop_zero,List.take_of_length_le oM];exact htr
 obtain ⟨m,y,hy⟩:=Qp n e 0 n' cs _ htr' j u (by rw [hL];exact hj)
 have hjl:j<cs.length:=by have:=hq.2;simp only at this;omega
 rw [show P.cellsOf u=1 from hq.1,List.drop_eq_getElem_cons hjl] at hy
 exact ⟨m,cs[j],y,List.getElem?_eq_getElem hjl,hy⟩
theorem DU {α:Type} {en:α→List Value} {sz:Nat} {ok:α→Prop} {a:Option Addr} {len cap:Nat} (hc:len≤cap∧(a=none→cap=0)) (hl:len≤maxLen)
 (h:∀ i,i<len→∃ (b off:Nat) (x:α),a=some ⟨b,off,none⟩∧b<w.heap.size∧ok x∧∀ j v,(en x)[j]? = some v→w.cell? ⟨b,off+i*sz+j,none⟩=some v):∃ xs,VS en sz ok w w (.slice a len cap) xs:=by
 obtain ⟨xs,hx⟩:=tZ len hl h
 exact ⟨xs,a,len,cap,rfl,hc.1,hc.2,hx⟩
theorem IP {α β:Type} {K:Kd α β} {a:Option Addr} (len:Nat) {cap:Nat} (hc:len≤cap∧(a=none→cap=0)) (hl:len≤maxLen)
 (h:∀ i,i<len→∃ (b off:Nat) (x:α) (u:Value),a=some ⟨b,off,none⟩∧b<w.heap.size∧K.ok x∧VS K.encB K.szB K.okB w w u (K.inn x)∧∀ j v,(K.enc x u)[j]? = some v→w.cell? ⟨b,off+i*K.sz+j,none⟩=some v):∃ xs,VN K w w (.slice a len cap) xs:=by
 suffices H:∀ m,m≤len→∃ xs:List α,xs.length=m∧(∀ x∈xs,K.ok x)∧∀ (i:Nat) (x:α),xs[i]? = some x→∃ b off u,a=some ⟨b,off,none⟩∧b<w.heap.size∧VS K.encB K.szB K.okB w w u (K.inn x)∧∀ (j:Nat) (v:Value),(K.enc x u)[j]? = some v→w.cell? ⟨b,off+i*K.sz+j,none⟩=some v by
  obtain ⟨xs,h1,h2,h3⟩:=H len (Nat.le_refl _);exact ⟨xs,a,len,cap,rfl,hc.1,hc.2,h1,hl,h2,h3⟩
 intro m
 induction m with
 | zero=>intro _;exact ⟨[],rfl,AP,fun i x hx=>IX⟩
 | succ m ih =>
  intro hm;obtain ⟨xs,h1,h2,h3⟩:=ih oM;obtain ⟨b,off,x,u,e,hb,hx,hu,hcl⟩:=h m oM;refine ⟨xs ++ [x],BG,?_,fun i y hy => ?_⟩
  ·intro y hy;simp at hy;rcases hy with hy | rfl
   ·exact h2 y hy
   exact hx
  rcases Nat.lt_or_ge i m with hlt | hge
  ·rw [List.getElem?_append_left oM] at hy;exact h3 i y hy
  have hi:i=m:=cO;subst hi;rw [List.getElem?_append_right oM,h1,Nat.sub_self] at hy;simp at hy;subst hy;exact ⟨b,off,u,e,hb,hu,hcl⟩
theorem IK {t e:TypeId} {a:Option Addr} {len cap:Nat} {d:DataW H} {p:List MemPlace} (ht:P.underlying t=some (.slice e)) (he:P.underlying e=some (.int .u8)) (hc:P.cellsOf e=1)
 (h:DataW.Trod enc P w base (fun _=>true) held t (.slice a len cap) d p):∃ xs,Ar w w (.slice a len cap) xs:=by
 obtain ⟨xs,hx⟩:=yd ht he hc h
 refine DU (Bt ht h) hx.2.1 fun i hi => ?_
 obtain ⟨b,off,x,e,hb,hcell,h0,h1⟩:=Bs.at_ hx hi
 refine ⟨b,off,UInt8.ofNat x.toNat,e,hb,trivial,fun j v hv => ?_⟩
 match j,hv with
 | 0,hv =>
  simp [Ba] at hv;subst hv;rw [Nat.mul_one,Nat.add_zero,hcell]
  congr 2
  omega
 | j+1,hv=>simp [Ba] at hv
theorem XA {t e:TypeId} {a:Option Addr} {len cap:Nat} {d:DataW H} {p:List MemPlace} (ht:P.underlying t=some (.slice e)) (he:P.underlying e=some (.int .i64)) (hc:P.cellsOf e=1)
 (h:DataW.Trod enc P w base (fun _=>true) held t (.slice a len cap) d p):∃ xs,Cm w w (.slice a len cap) xs:=by
 obtain ⟨xs,hx⟩:=wF ht he hc h
 refine DU (Bt ht h) hx.2.1 fun i hi => ?_
 obtain ⟨b,off,x,e,hb,hcell,hbd,_⟩:=hx.at_ hi
 refine ⟨b,off,x,e,hb,hbd,fun j v hv => ?_⟩
 match j,hv with
 | 0,hv =>
  simp [DI] at hv;subst hv;rw [Nat.mul_one,Nat.add_zero,hcell]
 | j+1,hv=>simp [DI] at hv
end
end
end Go.Proofs.YtahefgkdbecemaaGreat
