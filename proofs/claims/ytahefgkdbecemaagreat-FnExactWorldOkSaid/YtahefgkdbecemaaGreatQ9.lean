/- The walks and the laws they lean on. -/
import Derived.Test.YtahefgkdbecemaaGreatQ8
namespace Go.Proofs.YtahefgkdbecemaaGreat
open Go.RowKit
set_option linter.unusedVariables false
set_option linter.unusedSimpArgs false
set_option maxRecDepth 100000
set_option maxHeartbeats 12800000
theorem Md:∀ x:Int,∀ u∈DI x,u.oneCell'=true:=fun x u hu=>by simp [DI] at hu;subst hu;rfl
theorem Ds.form {w:World} {B:Nat} {v:Value} {xs:List Int} (h:Ds w B v xs):∃ (a:Option Addr) (c:Nat),v = .slice a xs.length c:=by
 exact Z0
theorem VS.take {α:Type} {enc:α→List Value} {sz:Nat} {ok:α→Prop} {w:World} {B n c:Nat} {a:Option Addr} {xs:List α} (h:VS enc sz ok w B (.slice a n c) xs) {k:Nat} (hk:k≤n):VS enc sz ok w B (.slice a k c) (xs.take k):=by
 exact Z1
theorem Fv {l:List Cn} {h:Ht} (hq:¬ (0≤h.ain∧h.ain≤1125899906842624∧1≤h.aout∧h.aout≤h.ain∧0≤h.age∧h.age≤1125899906842624∧Cp l h.inn h.out=true)):Dy l h=false:=by
 cases hb:Dy l h with
 | false=>rfl
 | true =>
  unfold Dy AH Ad at hb;simp only [Bool.and_eq_true,decide_eq_true_eq] at hb;exact absurd ⟨hb.1.1.1.1,hb.1.1.1.2,hb.1.1.2.1,hb.1.1.2.2,hb.1.2.1,hb.1.2.2,hb.2⟩ hq
theorem Hv {l:List Cn} {c:Ci} (hq:¬ (0≤c.amt∧c.amt≤1125899906842624∧1≤c.amt∧0≤c.fee∧c.fee≤1125899906842624∧Cp l c.frm c.tw=true)):D0 l c=false:=by
 cases hb:D0 l c with
 | false=>rfl
 | true =>
  unfold D0 AH Ad at hb;simp only [Bool.and_eq_true,decide_eq_true_eq] at hb;exact absurd ⟨hb.1.1.1.1,hb.1.1.1.2,hb.1.1.2,hb.1.2.1,hb.1.2.2,hb.2⟩ hq
theorem IG {n:Int} (h:AH n=true):0≤n∧n≤1125899906842624:=of_decide_eq_true h
theorem Gf {n:Int} (h:AH n=false):¬ (0≤n∧n≤1125899906842624):=of_decide_eq_false h
def Bv (b:Bk):Bool:=b.htlcs.all (Dy b.chans) && b.circles.all (D0 b.chans) && Fb (A1 b)
theorem JJ (b:Bk):CW b=(decide (b.htlcs.length≤60) && decide (b.circles.length≤20) && Bv b):=by unfold CW Bv;simp [Bool.and_assoc]
theorem GF {b:Bk} {k:Nat} {x:Ht} (hx:b.htlcs[k]? = some x) (hb:Dy b.chans x=false):Bv b=false:=by unfold Bv;rw [LH hx hb];rfl
theorem IC {b:Bk} {k:Nat} {x:Ci} (hx:b.circles[k]? = some x) (hb:D0 b.chans x=false):Bv b=false:=by unfold Bv;rw [LH hx hb];simp
theorem Fi {b:Bk} (h:Bv b=false):CW b=false:=by rw [JJ,h];simp
theorem YK {α:Type} (f:α→Int) {l:List α} {k:Nat} {x:α} (ht:l.take (k+1)=l.take k ++ [x]):(l.take (k+1)).map f=(l.take k).map f ++ [f x]:=by rw [ht];simp
theorem A12 (x y z:Value) (b:Bk) (w:World) (V:BkV w w x y z b):Calls Tryz.prog 237 #[.agg #[b.tick,b.next,b.wallet,x,y,z]] w fun e w'=>e = .returned (CW b)∧Below w w w':=by
 have A3Y:=trivial;exact Di
theorem WA (x y z:Value) (b:Bk) (w:World) (V:BkV w w x y z b) (h60:b.htlcs.length≤60) (h20:b.circles.length≤20):Calls Tryz.prog 244 #[.agg #[b.tick,b.next,b.wallet,x,y,z]] w fun e w'=>(∃ v',e = .returned v'∧Ds w' w v' (A1 b))∧Below w w w':=by
 have A3Z:=trivial;exact Di
theorem vJ (x y z:Value) (b:Bk) (w:World) (V:BkV w w x y z b) (h60:b.htlcs.length≤60) (h20:b.circles.length≤20):Calls Tryz.prog 234 #[.agg #[b.tick,b.next,b.wallet,x,y,z]] w fun e w'=>e = .returned (Bv b)∧Below w w w':=by
 have A3a:=trivial;exact Di
theorem A0Y (v:Value) (xs:List Int) (w:World) (V:Cm w w v xs):Calls Tryz.prog 226 #[v] w fun e w'=>e = .returned (Iu xs)∧w=w':=by
 obtain ⟨a,n,c,rfl,hc,hnil,F⟩:=V;have I:=Cm.is F;have hl:=I.len;go_enter Tryz.func226,Tryz.ntmps226
 go_wp2;go_loop [4,7] (fun _ i=>∃ k:Nat,k≤n∧i=k∧Hid ((xs.take k).all (fun y=>decide (y=0))=true)) (fun _ i=>n - (intOf i).toNat)
 case atStart=>exact ⟨0,Nat.zero_le _,rfl,rfl⟩
 case round =>
  obtain ⟨k,hk,rfl,hall⟩:=hrel;by_cases hlt:k<n;rotate_left
  ·(have hres:Hid (Iu xs=true):=by have:=hall.out;rw [I.all oM] at this;exact this);exact Re
  obtain ⟨g,off,x,rfl,hg,c0,hxb,hx,ht⟩:=I.at_ hlt;by_cases hxy:x=0
  ·have e0:(x != 0)=false:=Dl;(have hgo:Hid ((xs.take (k+1)).all (fun y=>decide (y=0))=true):=by unfold Hid;rw [ht.out,List.all_append,hall.out];simp [hxy]);exact bJ
  have e0:(x != 0)=true:=Dl
  have hres:Hid (Iu xs=false):=by
   unfold Hid Iu;rw [Bool.eq_false_iff];intro h;exact hxy (of_decide_eq_true (List.all_eq_true.1 h x (List.mem_of_getElem? hx.out)))
  exact bK
theorem A0e (w:World):Calls Tryz.prog 68 #[] w fun e w'=>e = .returned (.agg #[I0, .int .i64 1,I0, .slice none 0 0, .slice none 0 0, .slice none 0 0])∧Below w w w':=by
 go_enter Tryz.func68,Tryz.ntmps68
 go_wp2;refine bodyPost_ret (by simp only [results,Tryz.results68];go_simp;rfl) rfl ?_;exact ⟨rfl,bW⟩
theorem A15 (w:World):Calls Tryz.prog 64 #[] w fun e w'=>e = .returned (.agg #[I0, .int .i64 1,I0, .slice none 0 0, .slice none 0 0, .slice none 0 0])∧Below w w w':=by
 go_enter Tryz.func64,Tryz.ntmps64
 go_wp2;refine bodyPost_ret (by simp only [results,Tryz.results64];go_simp;rfl) rfl ?_;exact ⟨rfl,bW⟩
def Fj (d:Dk):Bool:=decide (d.cells = []) && decide (d.dirty = [])
theorem Kx (d:Dk):Fj d=true↔d=Dk.zero:=by
 unfold Fj;rw [Bool.and_eq_true,decide_eq_true_eq,decide_eq_true_eq];constructor
 ·rintro ⟨h1,h2⟩;cases d;simp only at h1 h2;subst h1;subst h2;rfl
 rintro rfl;exact EI
theorem Xr (v0 v1:Value) (d:Dk) (w:World) (V:DkV w w v0 v1 d):Calls Tryz.prog 53 #[.agg #[v0,v1]] w fun e w'=>e = .returned (Fj d)∧Below w w w':=by
 have A4t:=trivial;exact Rk
theorem We (v0 v1:Value) (d:Dk) (w:World) (V:DkV w w v0 v1 d):Calls Tryz.prog 44 #[.agg #[v0,v1]] w fun e w'=>e = .returned (Fj d)∧Below w w w':=by
 exact Rk
end Go.Proofs.YtahefgkdbecemaaGreat
