/- The walks and the laws they lean on. -/
import Derived.Test.YtahefgkdbecemaaGreatQ8
namespace Go.Proofs.YtahefgkdbecemaaGreat
open Go.RowKit
set_option linter.unusedVariables false
set_option linter.unusedSimpArgs false
set_option maxRecDepth 100000
set_option maxHeartbeats 12800000
theorem A1P {l:Lg} {p:Po} (h1:Bq l=true) (h2:Dz p=true):∀ x∈AN l.lines p.lines,-(1125899906842624+1125899906842624)≤x.amt∧x.amt≤1125899906842624+1125899906842624:=by
 obtain ⟨-,-,h3⟩:=K5 h1;obtain ⟨-,-,h4⟩:=Mu h2;exact K7 1125899906842624 1125899906842624 oM _ _ (fun x hx=>IF ((Ec h3).1 x hx)) (fun x hx=>IF ((Ec h4).1 x hx)) oM
theorem zm {l:Lg} {p:Po} (h1:Bq l=true) (h2:Dz p=true):∀ x∈AN l.lines p.lines,AE x.kind∧AE x.ch:=by
 obtain ⟨-,-,h3⟩:=K5 h1;obtain ⟨-,-,h4⟩:=Mu h2
 have hk:∀ x:Ln,Cl x=true→AE x.kind∧AE x.ch:=fun x hx=>by
  unfold Cl at hx;simp only [Bool.and_eq_true] at hx;have:=of_decide_eq_true hx.1.1
  unfold AE;omega
 exact Ky _ _ (fun x hx=>hk x ((Ec h3).1 x hx)) (fun x hx=>hk x ((Ec h4).1 x hx))
theorem A2J (l:Lg) (p:Po) (v u:Value) (w:World) (VL:LgV w w v l) (VP:BE w w u p.lines) (hid:AE p.id):Calls Tryz.prog 84 #[.agg #[l.last,v], .agg #[p.id,u]] w fun e w'=>(∃ F v',e = .returned (.tuple #[.agg #[.int .i64 (BV l p).2.last,v'], .int .i64 (BV l p).1])∧As F w' w v' (BV l p).2)∧Below w w w':=by
 have A4A:=trivial;exact aZ
end Go.Proofs.YtahefgkdbecemaaGreat
