/- The walks and the laws they lean on. -/
import Derived.Test.YtahefgkdbecemaaGreatQ7
namespace Go.Proofs.YtahefgkdbecemaaGreat
open Go.RowKit
set_option linter.unusedVariables false
set_option linter.unusedSimpArgs false
set_option maxRecDepth 100000
set_option maxHeartbeats 12800000
theorem Hw.cell {w:World} {B g n:Nat} {xs:List Bool} (h:Hw w B (some ⟨g,0,none⟩) n xs) (j:Nat) (v:Bool) (hj:xs[j]? = some v):w.cell? ⟨g,j,none⟩=.some v:=by
 obtain ⟨b,off,e,hb,hc⟩:=h.2.2.2 j v hj;have A3n:=trivial;exact JO
theorem Eo (w:World) (n:Nat) (a:Addr):(w.drewN n).cell? a=w.cell? a:=J6
theorem Kr (h:Bool) (n lo hi:Int) (v:Bool) (hv:DB h n lo hi=v) (w:World):Calls Tryz.prog 241 #[h,n,lo,hi] w fun e w'=>e = .returned v∧w'=w :=
 (A1k h n lo hi w).mono fun e w' ⟨he,hw⟩=>⟨by rw [he,hv],hw.symm⟩
theorem yK (key ch too amt fee:Int) (yes:Bool) (w:World):Calls Tryz.prog 148 #[.agg #[.int .i64 4,key,ch,too,amt,fee,yes]] w fun e w'=>e = .returned (Ah 4 key ch too amt fee yes)∧Below w w w':=by
 have hl:=Wh 4
 obtain ⟨h0,h1,h2,h3,h4,h5,hh⟩:∃ h0 h1 h2 h3 h4 h5,Fa 4 = [h0,h1,h2,h3,h4,h5]:=by
  match Fa 4,hl with
  | [h0,h1,h2,h3,h4,h5],_=>exact ⟨h0,h1,h2,h3,h4,h5,rfl⟩
 have A3o:=trivial;exact aC
theorem A2A (k key ch too amt fee:Int) (yes:Bool) (w:World) (g1:1≤k) (g2:k≤11) (hk:¬ k=4):Calls Tryz.prog 148 #[.agg #[k,key,ch,too,amt,fee,yes]] w fun e w'=>e = .returned (Ah k key ch too amt fee yes)∧Below w w w':=by
 have hl:=Wh k
 obtain ⟨h0,h1,h2,h3,h4,h5,hh⟩:∃ h0 h1 h2 h3 h4 h5,Fa k = [h0,h1,h2,h3,h4,h5]:=by
  match Fa k,hl with
  | [h0,h1,h2,h3,h4,h5],_=>exact ⟨h0,h1,h2,h3,h4,h5,rfl⟩
 exact aC
theorem QV (k key ch too amt fee:Int) (yes:Bool) (w:World):Calls Tryz.prog 148 #[.agg #[k,key,ch,too,amt,fee,yes]] w fun e w'=>e = .returned (Ah k key ch too amt fee yes)∧Below w w w':=by
 by_cases h:1≤k∧k≤11
 ·by_cases hk:k=4
  ·subst hk;exact yK key ch too amt fee yes w
  exact A2A k key ch too amt fee yes w h.1 h.2 hk
 go_enter Tryz.func148,Tryz.ntmps148
 have hr:Ah k key ch too amt fee yes=false:=by unfold Ah;rw [decide_eq_false h];rfl
 rw [hr];go_wp2_with fail
 all_goals
  refine bodyPost_ret (by simp only [results,Tryz.results148];go_simp;rfl) rfl ?_
  exact ⟨rfl,bW⟩
end Go.Proofs.YtahefgkdbecemaaGreat
