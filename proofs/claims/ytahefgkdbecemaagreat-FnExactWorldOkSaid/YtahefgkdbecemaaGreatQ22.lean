/- The walks and the laws they lean on. -/
import Derived.Test.YtahefgkdbecemaaGreatQ8
namespace Go.Proofs.YtahefgkdbecemaaGreat
open Go.RowKit
set_option linter.unusedVariables false
set_option linter.unusedSimpArgs false
set_option maxRecDepth 100000
set_option maxHeartbeats 12800000
section
theorem Fg (r:List (Bool × Int)) (h:∀ p∈r,p.2≠0):A4 r=Jn r 0:=(Wi r h).symm
theorem vZ {b:Bk} {e:Ev} (h:Af b e=true):AQ b e=2:=by
 unfold Af at h;rw [Bool.or_eq_true] at h;unfold AQ;rw [A4];by_cases h0:decide (b.next=1125899906842624)=true
 ·rw [if_pos h0]
 rw [if_neg h0];rcases h with h | h
 ·exact absurd h h0
 by_cases h1:e.kind=1
 ·rw [if_pos h1] at h ⊢;rw [A4,if_pos h]
 rw [if_neg h1] at h ⊢;by_cases h2:e.kind=2
 ·rw [if_pos h2] at h ⊢;rw [A4,if_pos h]
 rw [if_neg h2] at h ⊢;by_cases h3:e.kind=3
 ·rw [if_pos h3] at h ⊢;rw [A4,if_pos h]
 rw [if_neg h3] at h ⊢;by_cases h8:e.kind=8
 ·rw [if_pos h8] at h;rw [if_neg oM,if_neg oM,if_neg oM,if_pos h8,A4,if_pos h]
 rw [if_neg h8] at h;cases h
theorem ES {b:Bk} {e:Ev} (h:Af b e=false):decide (b.next=1125899906842624)=false∧(e.kind=1→decide (1125899906842624<b.wallet+e.amt)=false)∧(e.kind=2→decide (1125899906842624<e.amt+e.fee)=false)∧(e.kind=3→(AI b.chans e.ch && decide (1125899906842624<b.wallet+(AM b.chans e.ch).loc - e.fee))=false)∧(e.kind=8→decide (b.tick=1125899906842624)=false):=by
 unfold Af at h;rw [Bool.or_eq_false_iff] at h;obtain ⟨h0,h⟩:=h;refine ⟨h0,fun k => ?_,fun k => ?_,fun k => ?_,fun k => ?_⟩
 ·rw [if_pos k] at h;exact h
 ·rw [if_neg oM,if_pos k] at h;exact h
 ·rw [if_neg oM,if_neg oM,if_pos k] at h;exact h
 rw [if_neg oM,if_neg oM,if_neg oM,if_pos k] at h;exact h
section
variable {b:Bk} {e:Ev}
theorem xC (h:Af b e=false) (hk:e.kind=1):AQ b e=0:=by
 have o:=ES h;unfold AQ;rw [A4,if_neg Gk,if_pos hk,A4,if_neg (by rw [o.2.1 hk];simp),A4]
theorem tO (h:Af b e=false) (hk:e.kind=2):AQ b e=AG (decide (b.wallet<e.amt)) 4 (AG (AI b.chans e.ch || decide (20≤b.chans.length)) 3 0):=by
 have o:=ES h;unfold AQ;rw [A4,if_neg Gk,if_neg oM,if_pos hk,A4,if_neg (by rw [o.2.2.1 hk];simp),Fg _ sM];rfl
theorem vB (h:Af b e=false) (hk:e.kind=3):AQ b e=AG (decide ((AM b.chans e.ch).loc<e.fee)) 8 (AG (DH b e.ch) 7 (AG (!AI b.chans e.ch) 6 0)):=by
 have o:=ES h;unfold AQ;rw [A4,if_neg Gk,if_neg oM,if_neg oM,if_pos hk,A4,if_neg (by rw [o.2.2.2.1 hk];simp),Fg _ sM];rfl
theorem Xd (h:Af b e=false) (hk:e.kind=4):AQ b e=AG (!AI b.chans e.ch) 6 0:=by
 have o:=ES h;unfold AQ;rw [A4,if_neg Gk,if_neg oM,if_neg oM,if_neg oM,if_pos hk,Fg _ sM];rfl
theorem WH (h:Af b e=false) (hk:e.kind=5):AQ b e=AG (decide (ED b (AM b.chans e.ch) (AM b.chans e.tw) e.tw e.amt e.yes=0)) 13 (AG (decide ((AM b.chans e.tw).loc<e.amt)) 12 (AG (decide ((AM b.chans e.ch).rem<e.amt+EC (AM b.chans e.tw).base (AM b.chans e.tw).ppm e.amt true)) 11
 (AG (!(Be (AM b.chans e.tw).base (AM b.chans e.tw).ppm e.amt true && CE e.amt (EC (AM b.chans e.tw).base (AM b.chans e.tw).ppm e.amt true))) 10 (AG (decide (60≤b.htlcs.length)) 14 (AG (!(AI b.chans e.ch && AI b.chans e.tw)) 6 (AG (Aw b e.key || Ay b e.key) 9 0)))))):=by
 have o:=ES h
 unfold AQ
 rw [A4,if_neg Gk,if_neg oM,if_neg oM,if_neg oM,if_neg oM,if_pos hk,Fg _ sM]
 rfl
theorem Mj (h:Af b e=false) (hk:e.kind=6∨e.kind=7):AQ b e=AG (!Aw b e.key) 15 0:=by
 have o:=ES h;unfold AQ;rw [A4,if_neg Gk,if_neg oM,if_neg oM,if_neg oM,if_neg oM,if_neg oM,if_pos hk,Fg _ sM];rfl
theorem yS (h:Af b e=false) (hk:e.kind=8):AQ b e=0:=by
 have o:=ES h;unfold AQ;rw [A4,if_neg Gk,if_neg oM,if_neg oM,if_neg oM,if_neg oM,if_neg oM,if_neg oM,if_pos hk,A4,if_neg (by rw [o.2.2.2.2 hk];simp),A4]
theorem A17 (h:Af b e=false) (hk:e.kind=9):AQ b e=AG (decide ((AM b.chans e.tw).rem<e.amt)) 11 (AG (decide ((AM b.chans e.ch).loc<e.amt+e.fee)) 12 (AG (decide (1125899906842624<e.amt+e.fee)) 10 (AG (decide (20≤b.circles.length)) 14 (AG (!(AI b.chans e.ch && AI b.chans e.tw)) 6 (AG (Aw b e.key || Ay b e.key) 9 0))))):=by
 have o:=ES h;unfold AQ;rw [A4,if_neg Gk,if_neg oM,if_neg oM,if_neg oM,if_neg oM,if_neg oM,if_neg oM,if_neg oM,if_pos hk,Fg _ sM];rfl
theorem MX (h:Af b e=false) (hk:e.kind=10∨e.kind=11):AQ b e=AG (!Ay b e.key) 15 0:=by
 have o:=ES h;unfold AQ;rw [A4,if_neg Gk,if_neg oM,if_neg oM,if_neg oM,if_neg oM,if_neg oM,if_neg oM,if_neg oM,if_neg oM,Fg _ sM];rfl
theorem Px (p q:Bool) (c k:Int) (hc:c≠0):AG (!q) c (AG (!p) c k)=AG (!(p && q)) c k:=by
 unfold AG;cases p<;>cases q<;>by_cases h:k=0<;>simp [h,hc]
theorem Bg {q:Bool} {c k:Int} (h:AG q c k=0) (hc:c≠0):q=false∧k=0:=by
 unfold AG at h;split at h
 ·exact absurd h hc
 rename_i hn;refine ⟨?_,h⟩
 cases q with
 | false=>rfl
 | true=>exact absurd ⟨rfl,h⟩ hn
end
def D2 {α:Type} (p:α→Bool) (z:α) (l:List α) (k:Nat):α:=((l.take k).find? p).getD z
section
variable {α:Type} {p:α→Bool} {z x:α} {l:List α} {k:Nat}
theorem XM:D2 p z l 0=z:=by simp [D2]
theorem tx (ht:l.take (k+1)=l.take k ++ [x]) (h:p x=false):D2 p z l (k+1)=D2 p z l k:=by
 unfold D2;rw [ht,List.find?_append];simp [h]
theorem VJ (ht:l.take (k+1)=l.take k ++ [x]) (h:p x=true) (hn:∀ y∈l.take k,p y=false):D2 p z l (k+1)=x:=by
 unfold D2;rw [ht,List.find?_append,List.find?_eq_none.2 (fun y hy=>by simp [hn y hy])];simp [h]
theorem YS (h:l.length≤k):D2 p z l k=(l.find? p).getD z:=by
 unfold D2;rw [List.take_of_length_le h]
theorem XB {f:α→Int} (hn:(l.map f).Nodup) (hx:l[k]? = some x):∀ y∈l.take k,f y≠f x:=by
 intro y hy e;obtain ⟨i,hi,hiy⟩:=List.getElem_of_mem hy;rw [List.length_take] at hi;rw [List.getElem_take] at hiy;obtain ⟨hk,hkx⟩:=List.getElem?_eq_some_iff.1 hx;rw [List.nodup_iff_pairwise_ne,List.pairwise_map,List.pairwise_iff_getElem] at hn;have:=hn i k oM hk oM
 rw [hiy,hkx] at this;exact this e
theorem zn (ht:l.take (k+1)=l.take k ++ [x]) (h:p x=true):(l.take (k+1)).filter p=(l.take k).filter p ++ [x]:=by rw [ht,List.filter_append];simp [h]
theorem za (ht:l.take (k+1)=l.take k ++ [x]) (h:p x=false):(l.take (k+1)).filter p=(l.take k).filter p:=by rw [ht,List.filter_append];simp [h]
end
theorem Pk.ndH {b:Bk} (P:Pk b):(b.htlcs.map (·.key)).Nodup:=(List.nodup_append.1 P.nd).1
theorem Pk.ndO {b:Bk} (P:Pk b):(b.circles.map (·.key)).Nodup:=(List.nodup_append.1 P.nd).2.1
end
theorem Mf {c:Cn}:∀ (l:List Cn) (k:Nat),(∀ x∈l.take k,x.id≤c.id)→(∀ x,l[k]? = some x→c.id<x.id)→A6 l c=l.take k ++ ([c] ++ l.drop k)
 | [],k,_,_=>by simp [A6]
 | x :: r,0,_,h=>by
  have:=h x rfl
  unfold A6;rw [if_pos this];rfl
 | x :: r,k+1,h,h'=>by
  have hx:=h x sM;unfold A6;rw [if_neg oM,Mf r k (fun y hy=>h y (by simp [hy])) (fun y hy=>h' y (by simpa using hy))];simp
theorem tg {c:Cn}:∀ (l:List Cn),(∀ x∈l,x.id≤c.id)→A6 l c=l ++ [c]:=fun l h=>by
 have:=Mf l l.length (fun x hx=>h x (List.mem_of_mem_take hx)) (fun x hx=>IX)
 exact Fm
theorem uU {c x:Cn} (l:List Cn) (h:∀ y∈l,y.id≤c.id) (hx:c.id<x.id):A6 (l ++ [x]) c=(l ++ [c]) ++ [x]:=by
 have:=Mf (c:=c) (l ++ [x]) l.length (fun y hy=>h y (by simpa using hy)) (fun y hy=>by simp at hy;subst hy;exact hx)
 exact Fm
theorem Wn {c x:Cn}:∀ (l:List Cn),(∃ y∈l,c.id<y.id)→A6 (l ++ [x]) c=A6 l c ++ [x]
 | [],h=>by obtain ⟨y,hy,_⟩:=h;cases hy
 | y :: r,h=>by
  by_cases h1:c.id<y.id
  ·show A6 (y :: (r ++ [x])) c=_;unfold A6;rw [if_pos h1,if_pos h1];rfl
  show A6 (y :: (r ++ [x])) c=_;unfold A6;rw [if_neg h1,if_neg h1,Wn r]
  ·rfl
  obtain ⟨z,hz,h2⟩:=h;rcases List.mem_cons.1 hz with rfl | hz
  ·exact absurd h2 h1
  exact ⟨z,hz,h2⟩
theorem YE {c x:Cn}:∀ (l:List Cn),x∈A6 l c→x=c∨x∈l
 | [],h=>by simpa [A6] using h
 | y :: r,h=>by
  unfold A6 at h;split at h
  ·rcases List.mem_cons.1 h with h | h
   ·exact Or.inl h
   exact Or.inr h
  rcases List.mem_cons.1 h with h | h
  ·exact Or.inr EK
  rcases YE r h with h | h
  ·exact Or.inl h
  exact Or.inr EK
def NR (l:List Cn) (ch:Int) (k:Nat):Prop:=(∀ x∈l.take k,x.id<ch)∧∀ x,l[k]? = some x→¬ x.id<ch
theorem zE {l:List Cn} {c:Cn} {k:Nat} (h:NR l c.id k) (hn:AI l c.id=false):A6 l c=l.take k ++ ([c] ++ l.drop k) :=
 Mf l k (fun x hx=>Int.le_of_lt (h.1 x hx)) (fun x hx=>by
  have h1:=h.2 x hx
  have h2:x.id≠c.id:=fun e=>by
   (have:AI l c.id=true:=(DO _ _).2 ⟨x,List.mem_of_getElem? hx,e⟩);rw [hn] at this;cases this
  omega)
theorem A1L (l:List Cn) (ch:Int):∀ x∈l.take 0,x.id<ch:=fun x hx=>IX
theorem A0X {l:List Cn} {ch:Int} {k:Nat} {x:Cn} (ht:l.take (k+1)=l.take k ++ [x]) (h:∀ y∈l.take k,y.id<ch) (hx:x.id<ch):∀ y∈l.take (k+1),y.id<ch:=fun y hy=>by
 rw [ht] at hy;rcases List.mem_append.1 hy with hy | hy
 ·exact h y hy
 rw [List.mem_singleton.1 hy];exact hx
def EQ (c:Cn) (d:Bool) (l r:List Cn):Prop:=(d=false∧(∀ y∈l,y.id≤c.id)∧r=l)∨(d=true∧(∃ y∈l,c.id<y.id)∧r=A6 l c)
theorem zU (c:Cn):EQ c false [] []:=Or.inl ⟨rfl,(fun y hy=>by cases hy),rfl⟩
theorem xq {c x:Cn} {l r:List Cn} (h:EQ c false l r) (hx:¬ c.id<x.id):EQ c false (l ++ [x]) (r ++ [x]):=by
 rcases h with ⟨-,h,rfl⟩ | ⟨h,-⟩
 ·refine Or.inl ⟨rfl,fun y hy => ?_,rfl⟩;rcases List.mem_append.1 hy with hy | hy
  ·exact h y hy
  rw [List.mem_singleton.1 hy];omega
 cases h
theorem zM {c x:Cn} {l r:List Cn} (h:EQ c false l r) (hx:c.id<x.id):EQ c true (l ++ [x]) ((r ++ [c]) ++ [x]):=by
 rcases h with ⟨-,h,rfl⟩ | ⟨h,-⟩
 ·exact Or.inr ⟨rfl,⟨x,AP,hx⟩,(uU r h hx).symm⟩
 cases h
theorem vP {c x:Cn} {l r:List Cn} (h:EQ c true l r):EQ c true (l ++ [x]) (r ++ [x]):=by
 rcases h with ⟨h,-⟩ | ⟨-,⟨y,hy,hl⟩,rfl⟩
 ·cases h
 exact Or.inr ⟨rfl,⟨y,by simp [hy],hl⟩,(Wn l ⟨y,hy,hl⟩).symm⟩
theorem yJ {c:Cn} {l r:List Cn} (h:EQ c false l r):r ++ [c]=A6 l c:=by
 rcases h with ⟨-,h,rfl⟩ | ⟨h,-⟩
 ·exact (tg r h).symm
 cases h
theorem vM {c:Cn} {l r:List Cn} (h:EQ c true l r):r=A6 l c:=by
 rcases h with ⟨h,-⟩ | ⟨-,-,h⟩
 ·cases h
 exact h
section
section
variable {b:Bk} {e:Ev}
theorem A0J (h:decide (b.next=1125899906842624)=false) (hk:e.kind=2):AQ b e=AG (decide (b.wallet<e.amt)) 4 (AG (AI b.chans e.ch || decide (20≤b.chans.length)) 3 (AG (decide (1125899906842624<e.amt+e.fee)) 2 0)):=by
 unfold AQ;rw [A4,if_neg LS,if_neg oM,if_pos hk,Fg _ sM];rfl
theorem wK (h:decide (b.next=1125899906842624)=false) (hk:e.kind=3):AQ b e=AG (decide ((AM b.chans e.ch).loc<e.fee)) 8 (AG (DH b e.ch) 7 (AG (!AI b.chans e.ch) 6 (AG (AI b.chans e.ch && decide (1125899906842624<b.wallet+(AM b.chans e.ch).loc - e.fee)) 2 0))):=by
 unfold AQ;rw [A4,if_neg LS,if_neg oM,if_neg oM,if_pos hk,Fg _ sM];rfl
theorem wO (h:decide (b.next=1125899906842624)=false) (hk:e.kind=1):AQ b e=AG (decide (1125899906842624<b.wallet+e.amt)) 2 0:=by
 unfold AQ;rw [A4,if_neg LS,if_pos hk,Fg _ sM];rfl
theorem A16 (h:decide (b.next=1125899906842624)=false) (hk:e.kind=8):AQ b e=AG (decide (b.tick=1125899906842624)) 2 0:=by
 unfold AQ;rw [A4,if_neg LS,if_neg oM,if_neg oM,if_neg oM,if_neg oM,if_neg oM,if_neg oM,if_pos hk,Fg _ sM];rfl
theorem ve (h:decide (b.next=1125899906842624)=true):AQ b e=2:=by
 unfold AQ;rw [A4,if_pos h]
end
end
end Go.Proofs.YtahefgkdbecemaaGreat
