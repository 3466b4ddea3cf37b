/- The walks and the laws they lean on. -/
import Derived.Test.YtahefgkdbecemaaGreatQ9
namespace Go.Proofs.YtahefgkdbecemaaGreat
open Go.RowKit
set_option linter.unusedVariables false
set_option linter.unusedSimpArgs false
set_option maxRecDepth 100000
set_option maxHeartbeats 12800000
theorem Uj {l:List Cn} {k:Nat} {x:Cn} (ht:l.take (k+1)=l.take k ++ [x]) (h:Cv (l.take k)) (hp:∀ p,(l.take k).getLast? = some p→p.id<x.id):Cv (l.take (k+1)):=by
 rw [ht];unfold Cv at *;rw [List.pairwise_append];refine ⟨h,List.pairwise_singleton _ _,fun y hy z hz => ?_⟩;simp at hz;subst hz;rcases hq:(l.take k).getLast? with _ | p
 ·rw [List.getLast?_eq_none_iff] at hq;rw [hq] at hy;simp at hy
 have h1:=hp p hq;obtain ⟨r,hr⟩:=List.getLast?_eq_some_iff.1 hq;rw [hr] at hy h;rcases List.mem_append.1 hy with hy | hy
 ·have h2:=(List.pairwise_append.1 h).2.2 y hy p sM;omega
 simp at hy;subst hy;exact h1
theorem Vv {b:Bk} {l:List Cn} {i:Nat} {p x:Cn} (hi:l[i]? = some p) (hx:l[i+1]? = some x) (h:x.id≤p.id):Fy b l=false:=by
 unfold Fy
 cases hc:K3 l with
 | false=>simp
 | true =>
  have:=Pp ((NS l).1 hc) hi hx oM
  omega
theorem vo {l:List Cn} {k j:Nat} {p q:Cn} (hj:l[j]? = some p) (hk:k=j+1) (h:(l.take k).getLast? = some q):q=p:=by
 subst hk
 have h1:(l.take (j+1)).getLast? = some p:=by
  have hlt:=(List.getElem?_eq_some_iff.1 hj).1;rw [List.take_add_one,hj];simp
 rw [h1] at h;exact (Option.some.inj h).symm
theorem QJ {b:Bk} {l:List Cn} {k:Nat} {x:Cn} (hx:l[k]? = some x) (h:Er b x=false):Fy b l=false:=by unfold Fy;rw [LH hx h];rfl
theorem LK {b:Bk} (h:Fy b b.chans=false):Ak b=false:=by unfold Ak;rw [h];simp
theorem Ps {b:Bk} (h:CW b=false):Ak b=false:=by unfold Ak;rw [h];simp
theorem Qr {b:Bk} {c:Cn} (hq:¬ ((1≤c.id∧c.id≤99)∧(0≤c.loc∧c.loc≤1125899906842624)∧(0≤c.rem∧c.rem≤1125899906842624)∧(0≤c.base∧c.base≤1125899906842624)∧(0≤c.ppm∧c.ppm≤1000000)∧(-100≤c.score∧c.score≤100)∧(0≤c.size∧c.size≤1125899906842624)∧c.size=c.loc+c.rem+BJ b c.id+BU b c.id)):Er b c=false:=by
 cases hb:Er b c with
 | false=>rfl
 | true =>
  unfold Er Et AH BI Ad at hb;simp only [Bool.and_eq_true,decide_eq_true_eq] at hb;exact absurd ⟨hb.1.1.1.1.1.1.1,hb.1.1.1.1.1.1.2,hb.1.1.1.1.1.2,hb.1.1.1.1.2,hb.1.1.1.2,hb.1.1.2,hb.1.2,hb.2⟩ hq
theorem A2N {b:Bk} {c:Cn} (h1:1≤c.id∧c.id≤99) (h2:0≤c.loc∧c.loc≤1125899906842624) (h3:0≤c.rem∧c.rem≤1125899906842624) (h4:0≤c.base∧c.base≤1125899906842624) (h5:0≤c.ppm∧c.ppm≤1000000) (h6 : -100≤c.score∧c.score≤100) (h7:0≤c.size∧c.size≤1125899906842624) (h8:c.size=c.loc+c.rem+BJ b c.id+BU b c.id):Er b c=true:=by
 unfold Er Et AH BI Ad;rw [decide_eq_true h1,decide_eq_true h2,decide_eq_true h3,decide_eq_true h4,decide_eq_true h5,decide_eq_true h6,decide_eq_true h7,decide_eq_true h8];rfl
theorem NH (x y z:Value) (b:Bk) (w:World) (V:BkV w w x y z b):Calls Tryz.prog 140 #[.agg #[b.tick,b.next,b.wallet,x,y,z]] w fun e w'=>e = .returned (Ak b)∧Below w w w':=by
 have A3b:=trivial;exact Di
end Go.Proofs.YtahefgkdbecemaaGreat
