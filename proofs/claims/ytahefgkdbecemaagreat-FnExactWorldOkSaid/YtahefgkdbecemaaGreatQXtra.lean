/- Laws beside the walks. -/
import Derived.Test.YtahefgkdbecemaaGreatQ0
import Derived.Test.YtahefgkdbecemaaGreatQ5
import Derived.Test.YtahefgkdbecemaaGreatQ7
import Derived.Test.YtahefgkdbecemaaGreatQ6
import Derived.Test.YtahefgkdbecemaaGreatQ8
import Derived.Test.YtahefgkdbecemaaGreatQ9
import Derived.Test.YtahefgkdbecemaaGreatQ10
import Derived.Test.YtahefgkdbecemaaGreatQ11
import Derived.Test.YtahefgkdbecemaaGreatQ12
import Derived.Test.YtahefgkdbecemaaGreatQ13
import Derived.Test.YtahefgkdbecemaaGreatQ14
import Derived.Test.YtahefgkdbecemaaGreatQ15
import Derived.Test.YtahefgkdbecemaaGreatQ16
import Derived.Test.YtahefgkdbecemaaGreatQ20
import Derived.Test.YtahefgkdbecemaaGreatQ21
import Derived.Test.YtahefgkdbecemaaGreatQ17
import Derived.Test.YtahefgkdbecemaaGreatQ18
import Derived.Test.YtahefgkdbecemaaGreatQ19
import Derived.Test.YtahefgkdbecemaaGreatQ23
import Derived.Test.YtahefgkdbecemaaGreatQ22
import Derived.Test.YtahefgkdbecemaaGreatQ25
import Derived.Test.YtahefgkdbecemaaGreatQ24
import Derived.Test.YtahefgkdbecemaaGreatQ26
import Derived.Test.YtahefgkdbecemaaGreatQ27
import Derived.Test.YtahefgkdbecemaaGreatQ28
import Derived.Test.YtahefgkdbecemaaGreatQ29
import Derived.Test.YtahefgkdbecemaaGreatQ30
import Derived.Test.YtahefgkdbecemaaGreatQ31
import Derived.Test.YtahefgkdbecemaaGreatQ32
import Derived.Test.YtahefgkdbecemaaGreatQ41
import Derived.Test.YtahefgkdbecemaaGreatQ42
import Derived.Test.YtahefgkdbecemaaGreatQ47
import Derived.Test.YtahefgkdbecemaaGreatQ33
import Derived.Test.YtahefgkdbecemaaGreatQ34
import Derived.Test.YtahefgkdbecemaaGreatQ35
import Derived.Test.YtahefgkdbecemaaGreatQ36
import Derived.Test.YtahefgkdbecemaaGreatQ37
import Derived.Test.YtahefgkdbecemaaGreatQ38
import Derived.Test.YtahefgkdbecemaaGreatQ39
import Derived.Test.YtahefgkdbecemaaGreatQ40
import Derived.Test.YtahefgkdbecemaaGreatQ43
import Derived.Test.YtahefgkdbecemaaGreatQ44
import Derived.Test.YtahefgkdbecemaaGreatQ45
import Derived.Test.YtahefgkdbecemaaGreatQ46
namespace Go.Proofs.YtahefgkdbecemaaGreat
open Go.RowKit
set_option linter.unusedVariables false
set_option linter.unusedSimpArgs false
set_option maxRecDepth 100000
set_option maxHeartbeats 12800000
section
section
variable {F G:List Nat} {w w':World} {B B':Nat} {v0 v1:Value} {d:Dk}
theorem C0.v (h:C0 F w B v0 v1 d):DkV w w v0 v1 d:=by
 obtain ⟨us,vs,h1,h2,_⟩:=h
 exact ⟨h1.vn,h2.vn⟩
end
end
section
section
variable {α:Type} {enc:α→List Value} {sz:Nat} {ok:α→Prop} {E:TypeId} {F G:List Nat} {w w':World} {B B':Nat} {v:Value} {xs:List α}
end
section
variable {F G:List Nat} {w w':World} {B B':Nat} {x y z:Value} {m:Bk}
end
section
variable {F G:List Nat} {w w':World} {B B':Nat} {v:Value} {m:Lg}
end
section
variable {F G:List Nat} {w w':World} {B B':Nat} {c d:Value} {m:Lo}
theorem Dg.vw (h:Dg F w B c d m):LoV w w c d m:=by
 obtain ⟨F0,h0,e,hd,hi⟩:=h
 exact ⟨h0.v,hi⟩
end
section
variable {F G:List Nat} {w w':World} {B B':Nat} {c d x y z l p q:Value} {m:Hb}
theorem DZ.vw (h:DZ F w B c d x y z l p q m):HbV w w c d x y z l p q m:=by
 obtain ⟨F0,F1,F2,F3,F4,⟨h0,h1,h2,h3,h4⟩,e,hd⟩:=h
 exact ⟨h0.vw,h1.vw,h2.vw,h3.vw (fun _=>rfl),h4.vw (fun _=>rfl)⟩
end
section
variable {F G:List Nat} {w w':World} {B B':Nat} {c d x y z l p q c2 d2 t s k:Value} {m:Wd}
theorem WdO.vw (h:WdO F w B c d x y z l p q c2 d2 t s k m):WdV w w c d x y z l p q c2 d2 t s k m:=by
 obtain ⟨F0,F1,F2,F3,F4,⟨h0,h1,h2,h3,h4⟩,e,hd⟩:=h
 exact ⟨h0.vw,h1.v,h2.vw (fun _=>rfl),h3.vw (fun _=>rfl),h4.vw (fun _=>rfl)⟩
end
section
variable {α β:Type} {K:Kd α β} {F G:List Nat} {w w':World} {B B':Nat} {v:Value} {xs:List α}
theorem C9.vn (h:C9 K F w B v xs):VN K w w v xs:=by
 obtain ⟨vs,h,rfl⟩:=h
 exact h.vn
end
section
variable {α:Type} {enc:α→List Value} {sz:Nat} {ok:α→Prop} {E:TypeId} {F:List Nat} {w:World} {B:Nat} {v:Value} {xs:List α}
end
end
end Go.Proofs.YtahefgkdbecemaaGreat
