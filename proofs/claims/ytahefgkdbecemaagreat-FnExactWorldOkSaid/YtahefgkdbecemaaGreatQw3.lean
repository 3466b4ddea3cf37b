/- The walks and the laws they lean on. -/
import Derived.Test.YtahefgkdbecemaaGreatQ0
import GoSem.Claim
import GoSem.ClaimJoined
import GoSem.ClaimMapViews
import Derived.JoinedTies
import Derived.KernelRfl
import Derived.WalkKit
import Derived.WalkSpells
import Derived.WalkLawsBesides
import Derived.IntWalk
import Derived.BigQuiet
import Derived.Deep.QuietTactic
import Derived.Lib.Hide
import Derived.Laws.AppendOwnNone
import Derived.Maps.AppendAt
import Derived.Lib.AtoiErrMem
import Derived.Deep.MidRow
import Derived.OrdersHeld
import Derived.Deep.RegionHeld3
import Derived.Laws.BitsAllLaws
import Derived.Lib.ItoaNum
import Derived.Deep.CutBlock
import Derived.Deep.DeepCutAuto
import Derived.Laws.MathBits
import Derived.Deep.RegionWith
import Derived.Laws.OwnMore
import Derived.Deep.RegionLaw
import Derived.Laws.IdiomStrings
import Derived.BigRegion
import Derived.ProofKit
import Derived.OpenShut
import Derived.ShutString
import Derived.ChangeOld
import Derived.Below
import Derived.Lib.SmallJoins
import Derived.Deep.Fields
import Derived.Deep.Slices
import Derived.Test.YtahefgkdbecemaaGreatQw0
import Derived.Test.YtahefgkdbecemaaGreatQw1
import Derived.Test.YtahefgkdbecemaaGreatQw2
namespace Go.Proofs.YtahefgkdbecemaaGreat
open Go.RowKit
set_option linter.unusedVariables false
set_option linter.unusedSimpArgs false
set_option maxRecDepth 100000
set_option maxHeartbeats 12800000
section
variable {p:Prop}
theorem Zg(h:p:=by
 obtain ⟨F0,h0,e,hd,hi⟩:=h;exact ⟨_,h0.le hB,e,hd,hi⟩):p:=h
theorem Bh(h:p:=by
 try simp only [Act.put,List.setIfInBounds_toArray,List.set_cons_zero,List.set_cons_succ]
 first
 |clear C4W
  refine wpAnyH_take (i:=13) (v := .int .i64 am) rfl kR kR kR (fun _ _ _ h=>h) (Or.inl ⟨BM,?_⟩) aS ?_
  ·exact Bi
  have C4X:=trivial;exact Bh
 |clear C4X
  refine wpAnyH_take (i:=14) (v := .pointer (some ⟨ue,5,none⟩)) rfl kR kR kR (fun _ _ _ h=>h) (Or.inl ⟨BM,?_⟩) aS ?_
  ·exact Bi
  have C4Y:=trivial;exact Bh
 |clear C4Y
  refine wpAnyH_take (i:=15) (v := .int .i64 fe) rfl kR kR kR (fun _ _ _ h=>h) (Or.inl ⟨BM,?_⟩) aS ?_
  ·exact Bi
  have C4Z:=trivial;exact Bh
 |clear C4Z
  refine wpAnyH_take (i:=16) (v := .agg #[ky,ch,tt,am,fe]) rfl kR kR kR (fun _ _ _ h=>h) (Or.inl ⟨BM,?_⟩) aS ?_
  ·exact Bi
  have C4a:=trivial;exact Bh
 |clear C4a
  refine wpAnyH_ready (rs := [5,17]) kR sM ?_;refine AllReadyH.cons rfl (fun K hK => ?_) ?_
  ·have C0q:=trivial;exact FV
  have C02:=trivial;exact Ll
 |clear C4b
  refine wpAnyH_take (i:=13) (v := .pointer (some ⟨ue,4,none⟩)) rfl kR kR kR (fun _ _ _ h=>h) (Or.inl ⟨BM,?_⟩) aS ?_
  ·exact Bi
  have C4c:=trivial;exact Bh
 |clear C4c
  refine wpAnyH_take (i:=14) (v := .int .i64 am) rfl kR kR kR (fun _ _ _ h=>h) (Or.inl ⟨BM,?_⟩) aS ?_
  ·exact Bi
  have C4d:=trivial;exact Bh
 |clear C4d
  refine wpAnyH_take (i:=15) (v := .int .i64 rv) rfl kR kR kR (fun _ _ _ h=>h) (Or.inl ⟨BM,?_⟩) aS ?_
  ·exact Bi
  have C4e:=trivial;exact Bh
 |clear C4e
  refine wpAnyH_take (i:=16) (v := .bool (rv == 2)) rfl kR kR kR (fun _ _ _ h=>h) (Or.inl ⟨BM,?_⟩) aS ?_
  ·exact Bi
  have C4f:=trivial;exact Bh
 |clear C4f
  refine wpAnyH_take (i:=17) (v := .agg #[ky,ch,tt, .int .i64 (am+fv),am, .bool (rv == 2),I0]) rfl kR kR kR (fun _ _ _ h=>h) (Or.inl ⟨BM,?_⟩) aS ?_
  ·exact Bi
  have C4g:=trivial;exact Bh
 |clear C4g
  refine wpAnyH_ready (rs := [5,18]) kR sM ?_;refine AllReadyH.cons rfl (fun K hK => ?_) ?_
  ·have C0r:=trivial;exact FV
  exact Ll
 |clear A7o
  refine wpAnyH_take (i:=6) (v := .pointer (some ⟨ue,1,none⟩)) rfl kR kR kR (fun _ _ _ h=>h) (Or.inl ⟨BM,?_⟩) aS ?_
  ·exact Bi
  have C4h:=trivial;exact Bh
 |clear C4h
  refine wpAnyH_take (i:=7) (v := .int .i64 ky) rfl kR kR kR (fun _ _ _ h=>h) (Or.inl ⟨BM,?_⟩) aS ?_
  ·exact Bi
  have C4i:=trivial;exact Bh
 |clear C4i
  refine wpAnyH_take (i:=8) (v := .pointer (some ⟨ue,2,none⟩)) rfl kR kR kR (fun _ _ _ h=>h) (Or.inl ⟨BM,?_⟩) aS ?_
  ·exact Bi
  have C4j:=trivial;exact Bh
 |clear C4j
  refine wpAnyH_take (i:=9) (v := .int .i64 ch) rfl kR kR kR (fun _ _ _ h=>h) (Or.inl ⟨BM,?_⟩) aS ?_
  ·exact Bi
  have C4k:=trivial;exact Bh
 |clear C4k
  refine wpAnyH_take (i:=10) (v := .pointer (some ⟨ue,3,none⟩)) rfl kR kR kR (fun _ _ _ h=>h) (Or.inl ⟨BM,?_⟩) aS ?_
  ·exact Bi
  have C4l:=trivial;exact Bh
 |clear C4l
  refine wpAnyH_take (i:=11) (v := .int .i64 tt) rfl kR kR kR (fun _ _ _ h=>h) (Or.inl ⟨BM,?_⟩) aS ?_
  ·exact Bi
  have C4m:=trivial;exact Bh
 |clear C4m
  first
  |clear C4n
   refine wpAnyH_take (i:=12) (v := .pointer (some ⟨ue,4,none⟩)) rfl kR kR kR (fun _ _ _ h=>h) (Or.inl ⟨BM,?_⟩) aS ?_
   ·exact Bi
   have C4W:=trivial;exact Bh
  |refine wpAnyH_take (i:=12) (v := .int .i64 (am+fv)) rfl kR kR kR (fun _ _ _ h=>h) (Or.inl ⟨BM,?_⟩) aS ?_
   ·exact Bi
   have C4b:=trivial;exact Bh
 |clear A9f
  refine wpAnyH_take (i:=1) (v := .pointer (some ⟨g,0,none⟩)) rfl kR kR kR (fun _ _ _ h=>h) (Or.inl ⟨BM,?_⟩) aS ?_
  ·exact Bi
  have C4o:=trivial;exact Bh
 |clear C4o
  refine wpAnyH_take (i:=2) (v := .pointer (some ⟨g,0,none⟩)) rfl kR kR kR (fun _ _ _ h=>h) (Or.inl ⟨BM,?_⟩) aS ?_
  ·exact Bi
  have C4p:=trivial;exact Bh
 |clear C4p
  refine wpAnyH_take (i:=3) (v := .pointer (some ⟨g,0,none⟩)) rfl kR kR kR (fun _ _ _ h=>h) (Or.inl ⟨BM,?_⟩) aS ?_
  ·exact Bi
  have C4q:=trivial;exact Bh
 |clear C4q
  first
  |clear B6b
   refine wpAnyH_take (i:=4) (v := .pointer (some ⟨g,5,none⟩)) rfl kR kR kR (fun _ _ _ h=>h) (Or.inl ⟨BM,?_⟩) aS ?_
   ·exact Bi
   have C4n:=trivial;exact iL
  |refine wpAnyH_take (i:=4) (v := .pointer (some ⟨g,4,none⟩)) rfl kR kR kR (fun _ _ _ h=>h) (Or.inl ⟨BM,?_⟩) aS ?_
   ·exact Bi
   exact iL
 |clear B2X
  have C4r:=trivial;exact my
 |clear B3U
  refine uy kR ?_ _;refine NoPanic.normal ?_
  first
  |clear C3h
   first
   |clear B1P
    have FQ:Bx (wc1.setCells w0 0 [D.id,D.size,D.loc,D.rem,D.base,D.ppm,D.score]) w0 [D.id,D.size,D.loc,D.rem,D.base,D.ppm,D.score]:=Bx.whole ZC rfl;have FX:Ex [w0] wc1 (wc1.setCells w0 0 [D.id,D.size,D.loc,D.rem,D.base,D.ppm,D.score]):=N8;have FB:Below w0 w0 (wc1.setCells w0 0 [D.id,D.size,D.loc,D.rem,D.base,D.ppm,D.score]):=Bc1.trans (FX.below (fun k hk=>JN) Bc1.size);exact rh
   |have FQ:Bx (wc1.setCells w0 0 [A.id,A.size,A.loc,A.rem,A.base,A.ppm,A.score]) w0 [A.id,A.size,A.loc,A.rem,A.base,A.ppm,A.score]:=Bx.whole ZC rfl;have FX:Ex [w0] wc1 (wc1.setCells w0 0 [A.id,A.size,A.loc,A.rem,A.base,A.ppm,A.score]):=N8;have FB:Below w0 w0 (wc1.setCells w0 0 [A.id,A.size,A.loc,A.rem,A.base,A.ppm,A.score]):=Bc1.trans (FX.below (fun k hk=>JN) Bc1.size);exact rh
  |clear C3l
   first
   |clear B1R
    have FB:Below w0 w0 (wc1.alloc (.cells #[A.id,A.size,A.loc,A.rem,A.base,A.ppm,A.score] 182)):=Ae Bc1 _;have FQ:=bN wc1 [A.id,A.size,A.loc,A.rem,A.base,A.ppm,A.score] 182;exact s8
   |have FB:Below w0 w0 (wc1.alloc (.cells #[D.id,D.size,D.loc,D.rem,D.base,D.ppm,D.score] 182)):=Ae Bc1 _;have FQ:=bN wc1 [D.id,D.size,D.loc,D.rem,D.base,D.ppm,D.score] 182;exact s8
  |clear C3Z
   first
   |clear A7Y
    obtain ⟨F',FK,FW⟩:=HR w10 _ L (Ex.of_below B10 _) (AC.le o10 KN) (fun k hk=>Or.inr (Cj o10 k hk).1) HOKS.out;try go_wp2_with fail
    first
    |clear C3e
     all_goals
      go_meet
      case rel=>exact ⟨F',_,FK,FW⟩
    |first
     |clear C2n
      all_goals
       go_meet
       case rel=>exact ⟨F',_,FK,FW⟩
     |all_goals
       go_meet
       case rel=>exact ⟨F',_,FK,FW⟩
   |obtain ⟨F',FK,FW⟩:=HR w8 _ L E8 o8 HFR.out HOKS.out;try go_wp2_with fail
    all_goals
     go_meet
     case rel=>exact ⟨F',FK,FW⟩
  |clear C3k
   have FB:Below w7 w7 (w7.alloc (.cells #[b7.next, .slice al nl cl] 125)).drew:=Below.drew (Ae (Below.refl _ _) _);have FQ:Bx (w7.alloc (.cells #[b7.next, .slice al nl cl] 125)).drew w7 [b7.next, .slice al nl cl]:=Bx.keep (Bx.new w7 _ _ [b7.next, .slice al nl cl] rfl zS _ rfl) (Below.drew (Below.refl _ _));(try go_wp2_with fail);go_meet
   case rel=>exact ⟨w7,rfl,Nat.le_refl _,FQ,FB⟩
  |clear C3d
   obtain ⟨F',FK,FW⟩:=HR w8 _ L E8 o8 HFR.out HOKS.out;try go_wp2_with fail
   all_goals
    go_meet
    case rel=>exact ⟨F',FK,FW⟩
  |obtain ⟨F',FK,FW⟩:=HR w9 _ L (Ex.of_below B9 _) (AC.le o9 KN) (fun k hk=>Or.inr (Cj o9 k hk).1) SI;try go_wp2_with fail
   all_goals
    go_meet
    case rel=>exact ⟨F',_,FK,FW⟩
 |clear C4s
  refine wpAnyH_ready (rs := [22]) kR sM ?_;have C3P:=trivial;exact nV
 |clear C4t
  refine wpAnyH_take (i:=22) (v := .pointer (some ⟨g,4,none⟩)) rfl kR kR kR (fun _ _ _ h=>h) (Or.inl ⟨BM,?_⟩) aS ?_
  ·exact Bi
  have C4u:=trivial;exact Bh
 |clear C4u
  refine wpAnyH_ready (rs := [23]) kR sM ?_;exact nV
 |first
  |clear C4r
   refine wpAnyH_take (i:=21) (v := .pointer (some ⟨g,5,none⟩)) rfl kR kR kR (fun _ _ _ h=>h) (Or.inl ⟨BM,?_⟩) aS ?_
   ·exact Bi
   have C4s:=trivial;exact Bh
  |refine wpAnyH_take (i:=21) (v := .pointer (some ⟨g,0,none⟩)) rfl kR kR kR (fun _ _ _ h=>h) (Or.inl ⟨BM,?_⟩) aS ?_
   ·exact Bi
   have C4t:=trivial;exact Bh):p:=h
theorem tA(h:p:=by
 exact ⟨⟨F,FL,_,_,_,_,rfl,(Ai.drew1 (Ai.put1 (Ai.put1 (Ai.put1 (Ai.put1 (Ai.put1 (Ai.put1 (Ai.put1 (Ai.put1 O3 hF2) hF2) hF2) hF2) hF2) hF2) hF3) hF3)).le oM,(As.drew1 (As.putF (As.putF (As.putF (As.putF (As.putF (As.putF (As.putF (As.putF OL hL2) hL2) hL2) hL2) hL2) hL2) hL3) hL3)).le oM⟩,Below.drew (G7 (G7 (G7 (G7 (G7 (G7 (G7 (G7 BX (Nat.le_refl _)) (Nat.le_refl _)) (Nat.le_refl _)) (Nat.le_refl _)) (Nat.le_refl _)) (Nat.le_refl _)) (Nat.le_of_lt h23)) (Nat.le_of_lt h23))⟩):p:=h
theorem Gu(h:p:=by
 have hno:Hid (Ak b=false):=LK (QJ hx.out (Qr G9))
 first
 |clear B9S
  have B7q:=trivial;exact jR
 |clear B9T
  have B7p:=trivial;exact ix
 |clear C0E
  have B7s:=trivial;exact jS
 |clear C2b
  have B7r:=trivial;exact iy
 |clear A7H
  clear hbz;have A91:=trivial;exact Sm
 |clear A7l
  exact iR
 |clear A9t
  exact Lq
 |clear B0a
  exact OU
 |exact iP):p:=h
theorem In(h:p:=by
 obtain ⟨g,off,x,rfl,hg,-,⟨c0,c1,c2,c3,c4,c5,c6⟩,hx,ht⟩:=DC.at_ (V0.keep hB).htlcs hlt
 first
 |clear C2W
  go_upto_region 8 with fail
  have C2H:=trivial;exact ov
 |clear C2X
  go_upto_region 5 with fail
  have C2F:=trivial;exact Tu
 |clear C3v
  go_upto_region 4 with fail
  have C0F:=trivial;exact Sx
 |clear A8u
  by_cases h1:x.inn=ch
  ·have e1:(x.inn == ch)=true:=BG;have hres:Hid (DH b ch=true):=XI hx.out (Or.inl h1);exact ic
  have e1:(x.inn == ch)=false:=BG;by_cases h2:x.out=ch
  ·have e2:(x.out == ch)=true:=Cs;have hres:Hid (DH b ch=true):=XI hx.out (Or.inr h2);exact ie
  have e2:(x.out == ch)=false:=Cs;have hgo:=lH (IQ (p:=fun y:Ht=>decide (y.inn=ch∨y.out=ch)) ht.out hall.out Ri);exact ig
 |clear C3w
  by_cases hxy:x.key=key
  ·have e0:(x.key == key)=true:=Dl;have hres:Hid (Fc b.htlcs key=(k:Int)):=Vc hall.out hx.out hxy;exact TR
  have e0:(x.key == key)=false:=Dl;have hgo:=lH (IQ (p:=fun y:Ht=>decide (y.key=key)) ht.out hall.out Dl);exact TS
 |have hxb:=hP.hmem hx.out
  first
  |clear C1G
   by_cases h1:x.inn=ch
   ·have C4R:=trivial;exact UZ
   have e1:(x.inn == ch)=false:=BG;have hi:Hid (((b.htlcs.take (k+1)).map (Bb ch)).sum=U):=Rs;exact Ox
  |by_cases h0:x.out=ch
   first
   |clear C2t
    ·by_cases h1:x.inn=ch
     ·have C4E:=trivial;exact UY
     have C4F:=trivial;exact UY
    by_cases h1:x.inn=ch
    ·have C4I:=trivial;exact Ub
    have C4J:=trivial;exact Ub
   |·exact UY
    exact Ub):p:=h
theorem JT(h:p:=by
 obtain ⟨ao,co,rfl,-⟩:=AC.of (ok:=fun _=>True) ho (fun _ _=>trivial)
 first
 |clear B5t
  by_cases hlt:k<n;rotate_left
  ·have hKF:=hKK.out;rw [List.take_of_length_le Cb] at hKF;(go_upto_if 94 with fail);go_cut [6] (fun v wq=>∃ a c,v = .slice a L.length c∧AC Cn.enc 7 182 wq w2 (.slice a L.length c) L∧Below w2 w2 wq)
   case first =>
    cases d with
    | true =>
     have hKL:L=KK:=HL.out.trans (vM hKF).symm;subst hKL;clear hKF hKK;go_wp2;go_meet
     case rel=>exact ⟨_,_,rfl,ho,hB⟩
    | false =>
     have hKL:KK ++ [(⟨ch,am+fe,am,fe,0,0,0⟩:Cn)]=L:=(yJ hKF).trans HL.out.symm;have HKL:=lH hKL;clear hKF hKK hKL;have z6:=hQ.cell;have B1I:=trivial;exact TY
   case rest =>
    obtain ⟨a,c,rfl,hoL,hBL⟩:=hcut;have C3r:=trivial;exact Ij
  obtain ⟨g1,off,⟨x0,x1,x2,x3,x4,x5,x6⟩,rfl,hg1,-,⟨c0,c1,c2,c3,c4,c5,c6⟩,hx,ht⟩:=Bz.at_ (VV.keep hB).chans hlt;have hnx:=lH (fun hm=>by have:=(Cj ho wr hm).2;omega:wr.heap.size∉(Value.slice ao KK.length co).ownBlock.toList);go_upto_region 9 with fail
  refine cW fun w5 P5 b5 => ?_;obtain ⟨ux,hux⟩:∃ u,u=wr.heap.size:=⟨_,rfl⟩;rw [← hux] at P5 hnx ⊢;clear hux;have C4S:=trivial;exact rz
 |clear B5u
  by_cases hlt2:k<n
  ·obtain ⟨g1,off,⟨x0,x1,x2,x3,x4,x5,x6⟩,hge,hg1,-,⟨c0,c1,c2,c3,c4,c5,c6⟩,hx,ht⟩:=Bz.at_ (VV.keep hB).chans hlt2;simp only [Option.some.injEq,Addr.mk.injEq] at hge;obtain ⟨rfl,rfl,-⟩:=hge;simp only [Nat.zero_add] at c0 c1 c2 c3 c4 c5 c6;(go_upto_region 9 with fail);have B9s:=trivial;exact pE
  have hKF:=hKK.out;rw [List.take_of_length_le Cb] at hKF;have hKL:L=KK:=HL.out.trans hKF.symm;subst hKL;obtain ⟨F',FK,FW⟩:=HR wr (.slice ao L.length co) L (Ex.of_below hB _) (AC.le ho KN) (fun k hk=>Or.inr (Cj ho k hk).1) HOKS.out;have P7:=PV.keep hB;have p3:=P7.cell 3 _ rfl;have z3:=P7.fz 3 AF;have hgl:=PV.lt;clear HR VR VV hKK hKl hKF;go_upto_region 13 with fail
  obtain ⟨PE',nE'⟩:=FW.box PE nE;obtain ⟨Q',nQ'⟩:=FW.box Q nQ;have WX':=WX.trans FW;generalize wr.setCell ⟨g,3,none⟩ (.slice ao L.length co)=w8 at FK FW PE' Q' WX' ⊢;clear P7 p3 z3 ho hB H5 PE nE Q nQ WX PV FW;have B36:=trivial;exact Og
 |clear A6d
  obtain ⟨g1,off,⟨x0,x1,x2,x3,x4,x5,x6⟩,rfl,hg1,-,⟨c0,c1,c2,c3,c4,c5,c6⟩,hx,ht⟩:=DC.at_ (V.keep hB).htlcs hlt;have B9t:=trivial;exact pD
 |clear A6k
  obtain ⟨g1,off,⟨x0,x1,x2,x3,x4⟩,rfl,hg1,-,⟨c0,c1,c2,c3,c4⟩,hx,ht⟩:=DA.at_ (V.keep hB).circles hlt;exact pD
 |clear A6y
  clear O2 R2 hol hEE;by_cases hlt:k<s;rotate_left
  ·have hend:Hid (Av d=EE):=A5b;go_wp2;go_ret;exact ⟨⟨_,_,rfl,A5c⟩,bW⟩
  obtain ⟨a',n',c',e,-,-,-,-,hat⟩:=hR.vn.at_;have B77:=trivial;exact DL
 |clear B9c
  have hse2:hv=(⟨q0,q1,q2,q3,q4⟩:Ci):=hse.trans H4.out;subst hse2;clear hse;have hKL:L=KK:=HLF.out.trans hKF.out.symm;subst hKL;have OKV:=V.circles.oks;exact mS
 |have hse2:hv=(⟨q0,q1,q2,q3,q4,q5,q6⟩:Ht):=hse.trans H4.out;subst hse2;clear hse;have hKL:L=KK:=HLF.out.trans hKF.out.symm;subst hKL;have OKV:=V.htlcs.oks;have B1u:=trivial;exact mS):p:=h
theorem EI(h:p:=by
 exact ⟨rfl,rfl⟩):p:=h
theorem RO(h:p:=by
 exact ⟨fun j v hj=>A5W,fun j hj=>by
  have:=h.th j hj
  rw [World.cell?_of_block (w:=w) (a:=⟨b,0+j,none⟩) hk,World.frozen?_of_block (w:=w) (a:=⟨b,0+j,none⟩) hk]
  exact this,h.ne⟩):p:=h
theorem KU(h:p:=by
 obtain ⟨h0,h1,h2,h3,h4,h5,h6,h7,h8,h9,h10,h11,h12,h13⟩:=PH.c14
 first
 |clear B8m
  have A8l:=trivial;exact jU
 |clear B8n
  have CS:=VZ (.slice al nl cl) (.slice none 0 0) h.ledger ⟨0,[]⟩ _ V0.ledger ⟨VS.nil _ _,Gl⟩;dsimp only at CS;go_wp2_with fail
  refine CS.mono ?_;rintro e w3 ⟨⟨r,rfl,hr⟩,bb⟩;have B8l:=trivial;exact qb
 |clear B0J
  have CS:=XT (.slice ax nx cx) (.slice ay ny cy) (.slice az nz cz) (.slice none 0 0) (.slice none 0 0) (.slice none 0 0) h.book ⟨0,0,0,[],[],[]⟩ _ V0.book ⟨VS.nil _ _,VS.nil _ _,VS.nil _ _,Gl⟩;dsimp only at CS;go_wp2_with fail
  refine CS.mono ?_;rintro e w2 ⟨⟨r,rfl,hr⟩,bb⟩;exact qb
 |clear B4V
  first
  |clear A46
   (go_upto_region 2 with fail);refine cW fun w00 QB bb => ?_;obtain ⟨ub,hub⟩:∃ u,u=w0.heap.size:=⟨_,rfl⟩;rw [← hub] at QB ⊢;have B8f:=trivial;exact UC
  |(go_wp2_with fail);refine (Xr (.slice ac nc cc) (.slice ad nd cd) h.log.disk _ V0.log.disk).mono ?_;rintro e w1 ⟨rfl,bb⟩;exact qP
 |clear B8g
  go_wp2_with fail
  refine (We (.slice ac nc cc) (.slice ad nd cd) h.log.disk _ V0.log.disk).mono ?_;rintro e w1 ⟨rfl,bb⟩;have QB:=QB.keep bb;have B8h:=trivial;exact qP
 |first
  |clear B8i
   obtain ⟨q0,q1,q2,q3,q4,q5⟩:=QB.c6;exact km
  |clear B8k
   have B0I:=trivial;exact km
  |first
   |clear B8j
    exact D3
   |obtain ⟨q0,q1,q2,q3,q4,q5⟩:=QB.c6;exact D3):p:=h
theorem nK(h:p:=by
 repeat (go_big_quiet_step (first | (go_at_call 238;first | exact Calls.grew_of_same (CH _)) | (go_at_call 231;first | exact Calls.grew_of_same (AL _) | exact Calls.grew_of_same (AR _) | exact Calls.grew_of_same (AB _)) | (go_at_call 124;first | exact Calls.grew_of_same (PP _)) | (go_at_call 239;first | exact Calls.grew_of_same (SC _))))
 first
 |clear B2k
  exact GS
 |exact GT):p:=h
theorem Ud(h:p:=by
 have hrb:∀ k∈v'.ownBlock.toList,k ∉ [g]:=fun k hk hm=>by
  exact B6U
 first
 |clear C4v
  obtain ⟨d1,d2,d3⟩:(∀ k∈G1,k∉G0)∧(∀ k∈G2,k∉G0)∧(∀ k∈G,k∉G0):=by
   exact UN
  refine ⟨((v'.ownBlock.toList ++ G1) ++ G2) ++ G,⟨(v'.ownBlock.toList ++ G1) ++ G2,G,y,z,l,rfl,?_,⟨v'.ownBlock.toList,G1,G2,⟨(RwO.mk' hr hok).kept ex hrb,(a1.kept hx d1).kept ex (hb (fun k hk=>Dj)),(a2.kept hx d2).kept ex (hb (fun k hk=>Dj))⟩,rfl,?_,hint⟩,(O.kept hx d3).kept ex (hb (fun k hk=>Dj)),?_,(fun hm=>by
   simp only [List.mem_append] at hm;rcases hm with ((hm | hm) | hm) | hm
   ·exact hrb g hm sM
   ·exact GW
   ·exact GW
   exact h1 Gs),?_⟩,⟨?_,?_⟩⟩
  ·exact (P.ex hx hgn).set1 3 _ AF
  ·have:=J2 (A := []) (G1:=G0) (C:=G1 ++ G2) (V:=v'.ownBlock.toList) (n:=w.heap.size) (by simpa using hn) (GA v') hfr (fun k hk=>by cases hk) (fun k hk => ?_)
   ·exact Fm
   rcases List.mem_append.1 hk with hk | hk
   ·exact (a1.lt k hk).2
   exact (a2.lt k hk).2
  ·have:=J2 (A := []) (G1:=G0) (C:=G1 ++ (G2 ++ G)) (V:=v'.ownBlock.toList) (n:=w.heap.size) (by simpa using hd) (GA v') hfr (fun k hk=>by cases hk) (fun k hk => ?_)
   ·exact Fm
   rcases List.mem_append.1 hk with hk | hk
   ·exact (a1.lt k hk).2
   exact px
  ·(have:(w'.setCell ⟨g,3,none⟩ v').heap.size=w'.heap.size:=AP);omega
  ·exact MI
  intro k hk;simp only [List.mem_append] at hk ⊢;rcases hk with ((hk | hk) | hk) | hk
  ·exact UR
  ·simp [hk]
  ·simp [hk]
  simp [hk]
 |clear C4w
  obtain ⟨d1,d2,d3⟩:(∀ k∈G0,k∉G2)∧(∀ k∈G1,k∉G2)∧(∀ k∈G,k∉G2):=by
   exact UN
  first
  |clear A4W
   refine ⟨((G0 ++ G1) ++ v'.ownBlock.toList) ++ G,⟨(G0 ++ G1) ++ v'.ownBlock.toList,G,y,v',l,rfl,?_,⟨G0,G1,v'.ownBlock.toList,⟨(a0.kept hx d1).kept ex (hb (fun k hk=>Dj)),(a1.kept hx d2).kept ex (hb (fun k hk=>Dj)),(RwO.mk' hr hok).kept ex hrb⟩,rfl,?_,hint⟩,(O.kept hx d3).kept ex (hb (fun k hk=>Dj)),?_,(fun hm=>by
    simp only [List.mem_append] at hm;rcases hm with ((hm | hm) | hm) | hm
    ·exact GW
    ·exact GW
    ·exact hrb g hm sM
    exact h1 Gs),?_⟩,⟨?_,?_⟩⟩
   ·exact (P.ex hx hgn).set1 5 _ AF
   ·exact pp
   ·exact rR
   ·exact tI
   ·exact MI
   exact oC
  |refine ⟨((G0 ++ G1) ++ v'.ownBlock.toList) ++ G,⟨(G0 ++ G1) ++ v'.ownBlock.toList,G,y,v',l,rfl,?_,⟨G0,G1,v'.ownBlock.toList,⟨(a0.kept hx d1).kept ex (hb (fun k hk=>Dj)),(a1.kept hx d2).kept ex (hb (fun k hk=>Dj)),(RwO.mk' hr hok).kept ex hrb⟩,rfl,?_,hint⟩,(O.kept hx d3).kept ex (hb (fun k hk=>Dj)),?_,(fun hm=>by
    simp only [List.mem_append] at hm;rcases hm with ((hm | hm) | hm) | hm
    ·exact GW
    ·exact GW
    ·exact hrb g hm sM
    ·exact h1 Gs),?_⟩,fun k hk=>by
     have C2O:=trivial;exact Ok
    ,⟨?_,?_⟩⟩
   ·exact (P.ex hx hgn).set1 5 _ AF
   ·exact pp
   ·exact rR
   ·exact tI
   ·exact MI
   exact oC
 |obtain ⟨d1,d2,d3⟩:(∀ k∈G0,k∉G1)∧(∀ k∈G2,k∉G1)∧(∀ k∈G,k∉G1):=by
   exact UN
  first
  |clear A4V
   refine ⟨((G0 ++ v'.ownBlock.toList) ++ G2) ++ G,⟨(G0 ++ v'.ownBlock.toList) ++ G2,G,v',z,l,rfl,?_,⟨G0,v'.ownBlock.toList,G2,⟨(a0.kept hx d1).kept ex (hb (fun k hk=>Dj)),(RwO.mk' hr hok).kept ex hrb,(a2.kept hx d2).kept ex (hb (fun k hk=>Dj))⟩,rfl,?_,hint⟩,(O.kept hx d3).kept ex (hb (fun k hk=>Dj)),?_,(fun hm=>by
    simp only [List.mem_append] at hm;rcases hm with ((hm | hm) | hm) | hm
    ·exact GW
    ·exact hrb g hm sM
    ·exact GW
    exact h1 Gs),?_⟩,⟨?_,?_⟩⟩
   ·exact (P.ex hx hgn).set1 4 _ AF
   ·exact tJ
   ·exact pv
   ·exact tG
   ·exact MI
   exact oD
  |refine ⟨((G0 ++ v'.ownBlock.toList) ++ G2) ++ G,⟨(G0 ++ v'.ownBlock.toList) ++ G2,G,v',z,l,rfl,?_,⟨G0,v'.ownBlock.toList,G2,⟨(a0.kept hx d1).kept ex (hb (fun k hk=>Dj)),(RwO.mk' hr hok).kept ex hrb,(a2.kept hx d2).kept ex (hb (fun k hk=>Dj))⟩,rfl,?_,hint⟩,(O.kept hx d3).kept ex (hb (fun k hk=>Dj)),?_,(fun hm=>by
    simp only [List.mem_append] at hm;rcases hm with ((hm | hm) | hm) | hm
    ·exact GW
    ·exact hrb g hm sM
    ·exact GW
    ·exact h1 Gs),?_⟩,fun k hk=>by
     have C2N:=trivial;exact Ok
    ,⟨?_,?_⟩⟩
   ·exact (P.ex hx hgn).set1 4 _ AF
   ·exact tJ
   ·exact pv
   ·exact tG
   ·exact MI
   exact oD):p:=h
theorem OK(h:p:=by
 have hno:Hid (Cz size few all sf sa amt good=0):=by
  exact C4Q
 first
 |clear A6s
  have e4:decide (sf<0)=true:=decide_eq_true hp4;exact Ik
 |clear A6t
  have e5:decide (sa<0)=true:=decide_eq_true hp5;exact Ik
 |clear A6u
  have e6:decide (all<few)=true:=decide_eq_true hp6;exact Ik
 |have e7:decide (sa<sf)=true:=decide_eq_true hp7;exact Ik):p:=h
theorem Cx(h:p:=by
 simp [A9]):p:=h
theorem MI(h:p:=by
 exact (hx.more (fun k hk=>A5j)).trans (ex.more (fun k hk=>bB))):p:=h
theorem nJ(h:p:=by
 repeat (go_big_quiet_step (first | (go_at_call 238;first | exact Calls.grew_of_same (CH _)) | (go_at_call 231;first | exact Calls.grew_of_same (AL _) | exact Calls.grew_of_same (AR _) | exact Calls.grew_of_same (AB _)) | (go_at_call 124;first | exact Calls.grew_of_same (PP _))))
 first
 |clear B2i
  exact GS
 |exact GT):p:=h
theorem Fm(h:p:=by
 simpa using this):p:=h
theorem Oe(h:p:=by
 obtain ⟨a8,c8,rfl,-⟩:=AC.of (ok:=fun _=>True) o8 (fun _ _=>trivial)
 first
 |clear B1J
  have b58:Ex (Value.slice ao KK.length co).ownBlock.toList wr w8:=(Ex.of_below (Ae (Below.refl wr wr) _) _).trans (Ex.of_grown g8);have FB:Below w2 w2 w8:=hB.trans (b58.below (fun k hk=>(Cj ho k hk).1) hB.size);go_wp2;go_meet
  case rel=>exact ⟨_,_,rfl,o8,FB⟩
 |clear B5E
  have E8:Ex (Value.slice ar nr cr).ownBlock.toList w7 w8:=(Ex.of_below (Ae (Below.drew (Below.refl _ _)) _) _).trans (Ex.of_grown g8);have P8:=PP.ex E8 (fun hm=>H5.gF (HIN.out g hm))
  first
  |clear C0z
   have p8:=P8.cell 5 _ rfl;have z8:=P8.fz 5 AF;have B2W:=trivial;exact lR
  |clear C00
   have p8:=P8.cell 4 _ rfl;have z8:=P8.fz 4 AF;have B2Z:=trivial;exact TU
  |clear C3j
   have z8:=P8.fz 5 AF;have p8:=E8.cell pw (fun hm=>H5.gF (HIN.out g hm));exact lR
  |have z8:=P8.fz 4 AF;have p8:=E8.cell pw (fun hm=>H5.gF (HIN.out g hm));exact TU
 |clear B5d
  have B8:Below wz wz w8:=Below.trans (bW) b8
  first
  |clear B0K
   have P8:=PP.keepL B8 hgr;have Q8:=Q.keepL B8 hul;have p8:=P8.cell 3 _ rfl;have z8:=P8.fz 3 AF;obtain ⟨q80,q81,q82,q83,q84,q85,q86⟩:=Q8.c7
   first
   |clear C3i
    have lit:∀ j u,([ch, .int .i64 (am+fe),am,fe,I0,I0,I0]:List Value)[j]? = some u→w8.cell? ⟨wz,j,none⟩=some u:=fun j u h=>(Ex.of_grown g8).cell (BC wz.drew _ _ rfl j u h) FF;have C3a:=trivial;exact GO
   |have C3b:=trivial;exact GO
  |have P8:=P2.keepL B8 hPl;have p8:=P8.cell 3 _ rfl;have z8:=P8.fz 3 AF;have C3f:=trivial;exact GO
 |first
  |clear B1M
   have b68:Ex (Value.slice a7 K1.length c7).ownBlock.toList w6 w8:=(Ex.of_below (Ae (Below.refl w6 w6) _) _).trans (Ex.of_grown g8);have B2P:=trivial;exact mu
  |clear B1N
   have b68:Ex (Value.slice ao KK.length co).ownBlock.toList w6 w8:=(Ex.of_below (Ae (Below.refl w6 w6) _) _).trans (Ex.of_grown g8);exact mu
  |have b58:Ex (Value.slice ao KK.length co).ownBlock.toList w5 w8:=(Ex.of_below (Ae (Below.refl w5 w5) _) _).trans (Ex.of_grown g8)
   first
   |clear C4x
    have FB:Below w2 w2 w8:=hB5.trans (b58.below (fun k hk=>(Cj ho5 k hk).1) hB5.size);clear f8 g8 b58 P5 ho5 HE2 e2 d0 d1 d2 d3 d4 d5 d6;go_wp2;go_roundw
    case rel=>exact ⟨k+1,_,K2,AA,Ab,rfl,o8,hKK2,AA,FB⟩
    case measure=>simp only [intOf];omega
   |have hQ8:=hQ5.ex b58 hun.out
    have hun8:Hid (uh∉(Value.slice a8 K2.length c8).ownBlock.toList):=fun hm=>by
     rcases f8 uh N7 with h | h
     ·exact hun.out Gi
     exact Of
    have FB:Below w w w8:=hB5.trans (b58.below (fun k hk=>(Cj ho5 k hk).1) hB5.size);clear f8 g8 b58 hQ5 ho5 P5 HE2;go_wp2;go_roundw
    case rel=>exact ⟨k+1,_,K2,hv,AA,Ab,rfl,o8,hun8,hKK2,AA,hsl,hQ8,FB⟩
    case measure=>simp only [intOf];omega):p:=h
theorem UU(h:p:=by
 have hb:∀ {H:List Nat},(∀ k∈H,k∈((G0 ++ G1) ++ G2) ++ G)→∀ k∈H,k ∉ [g]:=fun hH k hk hm=>h1 A5i
 first
 |clear C39
  have hgn:g∉G0:=fun hm=>h1 Gs;have C4v:=trivial;exact Ud
 |clear C4A
  have hgn:g∉G2:=fun hm=>h1 Gs;have C4w:=trivial;exact Ud
 |have hgn:g∉G1:=fun hm=>h1 Gs;exact Ud):p:=h
theorem nO(h:p:=by
 repeat (go_big_quiet_step (first | (go_at_call 238;first | exact Calls.grew_of_same (CH _)) | (go_at_call 231;first | exact Calls.grew_of_same (AL _) | exact Calls.grew_of_same (AR _) | exact Calls.grew_of_same (AB _))))
 first
 |clear B2q
  exact GS
 |exact GT):p:=h
theorem NY(h:p:=by
 rw [if_neg e1,if_neg e2,if_neg e1,if_neg e2,if_neg oM,if_neg oM];omega):p:=h
theorem nL(h:p:=by
 repeat (go_big_quiet_step (first | (go_at_call 233;first | with_reducible exact Calls.grew_of_same (AL _) | with_reducible exact Calls.grew_of_same (AR _) | with_reducible exact Calls.grew_of_same (AB _))))
 first
 |clear B2l
  exact GS
 |exact GT):p:=h
theorem sS(h:p:=by
 have hHB:∀ h∈b.htlcs,0≤h.aout∧h.aout≤1125899906842624:=fun h hm=>by
  exact B5C
 first
 |clear C32
  have CAL:=fun w (H:Wk F (.slice (some ⟨p1,0,none⟩) n cx) w g B b [] 0)=>ui F _ g B b [] 0 A.id A.size A.loc A.rem A.base A.ppm A.score D.id D.size D.loc D.rem D.base D.ppm D.score 5 ky ch tt am fe ys w H hHB hb.pk.h60 ⟨dok.2.1,Nt⟩;rw [show ED b ⟨A.id,A.size,A.loc,A.rem,A.base,A.ppm,A.score⟩ ⟨D.id,D.size,D.loc,D.rem,D.base,D.ppm,D.score⟩ tt am ys=rv from HRV.out.symm] at CAL;simp only [aid,did] at CAL;go_upto_region 12 with fail
  have gu0:=fun gr:Grew w7=>gr.cell u0;have gu1:=fun gr:Grew w7=>gr.cell u1;have gu2:=fun gr:Grew w7=>gr.cell u2;have gu3:=fun gr:Grew w7=>gr.cell u3;have gu4:=fun gr:Grew w7=>gr.cell u4;have gu5:=fun gr:Grew w7=>gr.cell u5;have gu6:=fun gr:Grew w7=>gr.cell u6;have gv0:=fun gr:Grew w7=>gr.cell v0;have gv1:=fun gr:Grew w7=>gr.cell v1;have gv2:=fun gr:Grew w7=>gr.cell v2;have gv3:=fun gr:Grew w7=>gr.cell v3;have gv4:=fun gr:Grew w7=>gr.cell v4;have gv5:=fun gr:Grew w7=>gr.cell v5;have gv6:=fun gr:Grew w7=>gr.cell v6;have gc0:=fun gr:Grew w7=>gr.cell c0;have gc1:=fun gr:Grew w7=>gr.cell c1;have gc2:=fun gr:Grew w7=>gr.cell c2;have gc3:=fun gr:Grew w7=>gr.cell c3;have gc4:=fun gr:Grew w7=>gr.cell c4;have gc5:=fun gr:Grew w7=>gr.cell c5;have gc6:=fun gr:Grew w7=>gr.cell c6;refine ET kR kR ?_;repeat (go_big_quiet_step ((go_at_call 265;with_reducible exact Calls.grew_of (CAL _ (H5.keep (Grew.below _))))))
  refine wpQuiet_nil ?_;rintro _ ⟨gw,rfl⟩;obtain ⟨w8,b78⟩:=gw;dsimp only;clear gu0 gu1 gu2 gu3 gu4 gu5 gu6 gv0 gv1 gv2 gv3 gv4 gv5 gv6 gc0 gc1 gc2 gc3 gc4 gc5 gc6;have W6:Wf g F F w7 w8:=Wf.of_below b78;have H6:=H5.keep b78;have C34:=trivial;exact MG
 |have CR:=fun w V=>A1h (.slice (some ⟨gx,0,none⟩) n cx) (.slice ay m cy) (.slice az q cz) b A.id A.size A.loc A.rem A.base A.ppm A.score D.id D.size D.loc D.rem D.base D.ppm D.score am ys w V hHB hb.pk.h60 ⟨dok.2.1,Nt⟩;obtain ⟨rv,hrv⟩:∃ r,r=ED b A D tt am ys:=⟨_,rfl⟩;have hrv2:ED b ⟨A.id,A.size,A.loc,A.rem,A.base,A.ppm,A.score⟩ ⟨D.id,D.size,D.loc,D.rem,D.base,D.ppm,D.score⟩ D.id am ys=rv:=by rw [HDid.out];exact hrv.symm
  rw [hrv2] at CR;have HRV:=lH hrv;clear hrv hrv2 hHB;have B4g:=trivial;exact Oq):p:=h
theorem OW(h:p:=by
 obtain ⟨u0,u1,u2,u3,u4,u5,u6,u7,u8,u9,u10,u11,u12,u13⟩:=PX.c14
 first
 |clear A9E
  go_upto_region 2 with fail
  refine cV hz fun w1 DX bx => ?_;clear u0 u1 u2 u3 u4 u5 u6 u7 u8 u9 u10 u11 u12 u13;replace PX:=PX.keep bx;replace BX:=AD bx BX;have VX:=V.keep BX;clear hz bx;have C4y:=trivial;exact OW
 |clear C4y
  obtain ⟨d0,d1⟩:=DX.c2;go_wp2_with fail
  first
  |clear B2V
   refine (QT _ _ h.log.disk w1 VX.log.disk).mono ?_;have C4z:=trivial;exact jo
  |refine (Mn _ _ h.log.disk w1 VX.log.disk).mono ?_;exact jo
 |clear B6T
  obtain ⟨r0,r1,r2,r3,r4,r5⟩:=RX.c6;obtain ⟨s0,s1⟩:=SX.c2
  first
  |clear A7k
   first
   |clear C40
    cases ro with
    | false =>
     exact pe
    | true =>
     (go_wp2_with fail);refine (wJ _ _ _ _ _ _ rb h.book _ RV VX.book).mono ?_;have C41:=trivial;exact i9
   |have B5T:=trivial;exact pd
  |first
   |clear A8R
    first
    |clear C42
     cases q2 with
     | false =>
      exact rU
     | true =>
      have hdum:=trivial;have C43:=trivial;exact OT
    |cases q2 with
     | false =>
      exact rU
     | true =>
      have hPXl:=PX.lt;have c12:=PX.cell 12 _ rfl;have c13:=PX.cell 13 _ rfl;have C44:=trivial;exact OT
   |first
    |clear C41
     cases q1 with
     | false =>
      exact rV
     | true =>
      (go_wp2_with fail);refine (VZ _ _ rl h.ledger _ SV VX.ledger).mono ?_;have C42:=trivial;exact iz
    |cases q1 with
     | false =>
      exact rV
     | true =>
      (go_wp2_with fail);refine (A19 _ _ rl h.ledger _ SV VX.ledger).mono ?_;exact iz
 |obtain ⟨d0,d1⟩:=DX.c2
  first
  |clear B6x
   obtain ⟨⟨a1,n1,k1,rfl⟩,⟨a2,n2,k2,rfl⟩,⟨a3,n3,k3,rfl⟩⟩:=O5.form;obtain ⟨a4,n4,k4,rfl⟩:=L5.form;obtain ⟨R,hR⟩:∃ R,R=BB (Av h.log.disk):=⟨_,rfl⟩;rw [← hR] at O5 L5 ⊢;have HR:=lH hR;obtain ⟨rb,rl,ro⟩:=R;dsimp only at O5 L5 ⊢;clear hR
   first
   |clear B1D
    (go_upto_region 9 with fail);have C40:=trivial;exact iC
   |(go_upto_region 7 with fail);exact iC
  |first
   |clear A9A
    cases hT0:BO h.log.disk
    ·have hno:Hid (Bd h=false):=Ew (fun e=>by
      have e2:=e.1
      rw [hT0] at e2;cases e2)
     clear hT0;exact FZ
    have H0:=lH hT0;clear hT0
    first
    |clear C4z
     (go_wp2_with fail);refine (Cy h.log.next 0 nc _).mono ?_;rintro e w2b ⟨rfl,rfl⟩;cases hT1:Ad h.log.next 0 nc
     ·have hno:Hid (Bd h=false):=Ew (fun e=>by
       have e2:=e.2.1;have e3:Ad h.log.next 0 nc=true:=by unfold Ad;rw [← HNC.out];simpa using e2
       rw [hT1] at e3;cases e3)
      clear hT1;exact FZ
     (have H1:Hid (0≤h.log.next∧h.log.next≤(h.log.disk.cells.length:Int)):=by unfold Hid;unfold Ad at hT1;rw [HNC.out];simpa using hT1);clear hT1;(go_wp2_with fail);refine (Cy h.log.epoch 1 16000000 _).mono ?_;rintro e w2c ⟨rfl,rfl⟩;cases hT2:Ad h.log.epoch 1 16000000
     ·have hno:Hid (Bd h=false):=Ew (fun e=>by
       have e2:=e.2.2.1;have e3:Ad h.log.epoch 1 16000000=true:=by unfold Ad;simpa using e2
       rw [hT2] at e3;cases e3)
      clear hT2;exact FZ
     (have H2:Hid (1≤h.log.epoch∧h.log.epoch≤16000000):=by unfold Hid;unfold Ad at hT2;simpa using hT2);clear hT2;(go_wp2_with fail);refine (Vx _ _ h.log.disk _ VX.log.disk).mono ?_;have C45:=trivial;exact kD
    |by_cases c1:h.log.next<0
     ·have e_c1:decide (h.log.next<0)=true:=by simp [c1]
      have hno:Hid (Bd h=false):=Ew (fun e=>by
       have e2:=e.2.1
       have:=HNC.out;omega)
      clear c1;exact FZ
     have e_c1:decide (h.log.next<0)=false:=An;by_cases c2:(nc:Int)<h.log.next
     ·have e_c2:decide ((nc:Int)<h.log.next)=true:=by simp [c2]
      have hno:Hid (Bd h=false):=Ew (fun e=>by
       have e2:=e.2.1
       have:=HNC.out;omega)
      clear c2;exact FZ
     have e_c2:decide ((nc:Int)<h.log.next)=false:=An;by_cases c3:h.log.epoch<1
     ·have e_c3:decide (h.log.epoch<1)=true:=by simp [c3]
      have hno:Hid (Bd h=false):=Ew (fun e=>by
       have e2:=e.2.2.1
       have:=HNC.out;omega)
      clear c3;exact FZ
     have e_c3:decide (h.log.epoch<1)=false:=An;by_cases c4:16000000<h.log.epoch
     ·have e_c4:decide (16000000<h.log.epoch)=true:=by simp [c4]
      have hno:Hid (Bd h=false):=Ew (fun e=>by
       have e2:=e.2.2.1
       have:=HNC.out;omega)
      clear c4;exact FZ
     have e_c4:decide (16000000<h.log.epoch)=false:=An;(have H1:Hid (0≤h.log.next∧h.log.next≤(h.log.disk.cells.length:Int)):=by unfold Hid;have:=HNC.out;omega);have H2:Hid (1≤h.log.epoch∧h.log.epoch≤16000000):=Ia;clear c1 c2 c3 c4;(go_wp2_with fail);refine (YV _ _ h.log.disk _ VX.log.disk).mono ?_;exact kD
   |clear A9k
    obtain ⟨rn,hrn⟩:∃ n,n=(BQ h.log.disk).length:=⟨_,rfl⟩;have HRN:=lH hrn;rw [← hrn]
    first
    |clear C45
     clear hrn;exact pd
    |clear hrn e_c1 e_c2 e_c3 e_c4;(go_wp2_with fail);refine (WZ _ _ h.log.disk _ VX.log.disk).mono ?_;exact lU
   |first
    |clear B5U
     clear t3;have B1C:=trivial;exact ly
    |exact ly):p:=h
theorem nM(h:p:=by
 repeat (go_big_quiet_step (first | (go_at_call 238;first | exact Calls.grew_of_same (CH _)) | (go_at_call 231;first | exact Calls.grew_of_same (AL _) | exact Calls.grew_of_same (AR _))))
 first
 |clear B2n
  exact GS
 |exact GT):p:=h
theorem Pc(h:p:=by
 obtain ⟨g,off,x,rfl,hg,-,⟨c0,c1,c2,c3,c4⟩,hx,ht⟩:=DA.at_ (V0.keep hB).circles hlt
 first
 |clear C2Z
  go_upto_region 15 with fail
  exact ov
 |clear C3x
  by_cases hxy:x.key=key
  ·have e0:(x.key == key)=true:=Dl;have hres:Hid (Fe b.circles key=(k:Int)):=YF hall.out hx.out hxy;exact TR
  have e0:(x.key == key)=false:=Dl;have hgo:=lH (IQ (p:=fun y:Ci=>decide (y.key=key)) ht.out hall.out Dl);exact TS
 |go_upto_region 10 with fail
  first
  |clear C3u
   exact Sx
  |exact Tu):p:=h
theorem tC(h:p:=by
 have hoks:∀ y∈L,y.ok:=fun y hy=>by
  exact B9a
 first
 |clear C3W
  have B5s:=trivial;exact pz
 |have HOKS:=lH hoks;have HL:=lH hL;obtain ⟨L1,hL1⟩:∃ l,l=b.chans.take k:=⟨_,rfl⟩;obtain ⟨L2,hL2⟩:∃ l,l=b.chans.drop k:=⟨_,rfl⟩;have hl1:L1.length=k:=by rw [hL1,List.length_take];have:=HN.out;omega
  have hl2:L2.length≤60:=dp;rw [← hL1,← hL2] at hins;obtain ⟨M,hM⟩:∃ l,l=L1 ++ [(⟨ch,am+fe,am,fe,0,0,0⟩:Cn)]:=⟨_,rfl⟩;have hMl:M.length=k+1:=by rw [hM,List.length_append,hl1];rfl
  rw [← List.append_assoc,← hM] at hins;have HM:=lH hM;have HL1:=lH hl1;have HML:=lH hMl;have HINS:=lH hins;have VT:=fun w' (hw:Below wz wz w')=>VS.tk (VR.keep hw) (k:=k) hk;rw [← hL1] at VT;clear hins hoks hL hnr OKS hM hL1 hl1 hMl;have hkI:(0:Int)≤(k:Int):=AA;have hkN:(k:Int)≤(n:Int):=AA;have hkc:k≤cx:=AA;have hk60:k≤60:=Cb;go_cut [] (fun wq=>∃ F' x',Wk F' x' wq g B {b with chans:=L} [] 0∧Wf g F F' wz wq)
  case first =>
   rcases OR.2 with ⟨hnil,hzz⟩ | ⟨gx,cap,cur,hsome,-⟩
   ·simp only [Value.slice.injEq] at hnil;obtain ⟨rfl,rfl,rfl⟩:=hnil;obtain rfl:k=0:=AA;have VD:=fun w' (hw:Below wz wz w')=>VR.keep hw;have hz:b.chans = []:=List.length_eq_zero_iff.1 Cb;rw [hz,List.drop_nil] at hL2;rw [hz,← hL2] at VD;clear hL2 hz;obtain ⟨q0,q1,q2,q3,q4,q5,q6⟩:=Q.c7;refine wp_region_noPanic ?_;refine II (S:=fun w'=>w'.cell? ⟨g,3,none⟩=some (.slice none 0 0)∧w'.cell? ⟨uc,0,none⟩=.some ch∧w'.cell? ⟨uc,1,none⟩=some (.int .i64 (am+fe))∧w'.cell? ⟨uc,2,none⟩=.some am∧w'.cell? ⟨uc,3,none⟩=.some fe∧w'.cell? ⟨uc,4,none⟩=.some I0∧w'.cell? ⟨uc,5,none⟩=.some I0∧w'.cell? ⟨uc,6,none⟩=.some I0) (last:=23) kR ?_ (fun hHeld => ?_)
    ·exact Bc
    have B7a:=trivial;exact OZ
   simp only [Value.slice.injEq] at hsome;obtain ⟨rfl,-,rfl⟩:=hsome;have VD:=fun w' (hw:Below wz wz w') (a':Option Addr) (ha:k<cx→a'=some ⟨gx,0+k*7,none⟩)=>VS.drop (VR.keep hw) (k:=k) hk ha;rw [← hL2] at VD;clear hL2;obtain ⟨q0,q1,q2,q3,q4,q5,q6⟩:=Q.c7;refine wp_region_noPanic ?_;refine II (S:=fun w'=>w'.cell? ⟨g,3,none⟩=some (.slice (some ⟨gx,0,none⟩) n cx)∧w'.cell? ⟨uc,0,none⟩=.some ch∧w'.cell? ⟨uc,1,none⟩=some (.int .i64 (am+fe))∧w'.cell? ⟨uc,2,none⟩=.some am∧w'.cell? ⟨uc,3,none⟩=.some fe∧w'.cell? ⟨uc,4,none⟩=.some I0∧w'.cell? ⟨uc,5,none⟩=.some I0∧w'.cell? ⟨uc,6,none⟩=.some I0) (last:=23) kR ?_ (fun hHeld => ?_)
   ·exact Bc
   exact OZ
  case rest =>
   obtain ⟨F',x',H6,W6⟩:=hcut;obtain ⟨w8,hw8⟩:∃ x,x=wc:=⟨_,rfl⟩;subst hw8;clear H5 HR OR VR PP zr hBw hgr p3 VT Q nQ hul;have C37:=trivial;exact PM):p:=h
theorem tL(h:p:=by
 have nQ:uh∉g :: F':=fun hm=>by
  exact B7H
 first
 |clear C46
  have Q':=Q.otherC g 4 (.slice ao L.length co) oM;clear HR FM x0 hQ Q HX PX ho hun hKF hok OKV hB;go_upto_region 11 with fail
  generalize wr.setCell ⟨g,4,none⟩ (.slice ao L.length co)=w3 at FK FW Q' ⊢;have H5:=FK;have WX:=FW;have Q:=Q';clear FK FW Q' p4 z4 P V H;obtain ⟨y3,z3,l3,P3,V3,-⟩:=H5.cells;obtain ⟨ay3,m3,cy3,rfl,-,-⟩:=VS.form V3.htlcs;obtain ⟨az3,r3,cz3,rfl,-,-⟩:=VS.form V3.circles;have CA:=Hi (.slice (some ⟨gx,0,none⟩) nx cxx) (.slice ay3 m3 cy3) (.slice az3 r3 cz3) {b with htlcs:=L} q1;dsimp only at CA;rw [HA1.out] at CA;obtain ⟨p0,p1,p2,p3,p4,p5⟩:=P3.c6;have x1:=Q.cell 1 _ rfl;go_cut [10] (fun v wq=>v = .int .i64 (ia:Int)∧Below w3 w3 wq)
  case first =>
   go_region_with (go_at_call 138;refine (CA _ (V3.keep (bW))).mono ?_;rintro e w4 ⟨rfl,b4⟩)
   all_goals
    go_wp2_with fail
    go_meet
    case rel=>exact ⟨rfl,bW⟩
  first
  |clear B93
   case rest =>
    have B0W:=trivial;exact lC
  |case rest =>
    exact lC
 |have Q':=Q.otherC g 5 (.slice ao L.length co) oM;clear HR FM x0 hQ Q HX PX ho hun hKF hok OKV hB;go_upto_region 11 with fail
  generalize wr.setCell ⟨g,5,none⟩ (.slice ao L.length co)=w3 at FK FW Q' ⊢;have H5:=FK;have WX:=FW;have Q:=Q';clear FK FW Q' p4 z4 P V H;have x3:=Q.cell 3 _ rfl;have x4:=Q.cell 4 _ rfl
  first
  |clear B95
   have hwr1:IntKind.i64.wrap (q3+q4)=q3+q4:=Ao;(go_upto_region 12 with fail);clear x3 x4;have x1:=Q.cell 1 _ rfl;(go_wp2_with fail);refine (Eu _ _ g B _ [] 0 q1 0 (q3+q4) _ H5 hi1 hso Ii Ii).mono ?_;have C10:=trivial;exact Lv
  |have hwr2:IntKind.i64.wrap (q3+q4)=q3+q4:=Ao;(go_upto_region 12 with fail);clear x3 x4;have x1:=Q.cell 1 _ rfl;(go_wp2_with fail);refine (Eu _ _ g B _ [] 0 q1 (q3+q4) 0 _ H5 hi1 hso Ii Ii).mono ?_;exact Lv):p:=h
theorem Zy(h:p:=by
 go_wp2_with (first | (go_at_call 235;refine (CS _).mono ?_;rintro e w1 ⟨rfl,rfl⟩) | (go_at_call 284;refine (QE _ _ _ _).mono ?_;rintro e w1 ⟨rfl,rfl⟩))
 all_goals
  go_ret
  exact ⟨CD JL,rfl⟩):p:=h
theorem Uc(h:p:=by
 obtain ⟨K2,hE2⟩:∃ l,l=KK ++ [(⟨x0,x1,x2,x3,x4,x5,x6⟩:Cn)]:=⟨_,rfl⟩
 first
 |clear C4T
  have hKK2:Hid (EQ (⟨ch,am+fe,am,fe,0,0,0⟩:Cn) true (b.chans.take (k+1)) K2):=by unfold Hid;rw [ht.out,hE2];exact vP hKK.out
  have HE2:=lH hE2;have hl2:K2.length≤k+1+1:=SR;clear hx ht hE2;have B2Q:=trivial;exact gN
 |clear C4U
  have hKK2:Hid (EQ (⟨ch,am+fe,am,fe,0,0,0⟩:Cn) false (b.chans.take (k+1)) K2):=by unfold Hid;rw [ht.out,hE2];exact xq (c:=(⟨ch,am+fe,am,fe,0,0,0⟩:Cn)) (x:=(⟨x0,x1,x2,x3,x4,x5,x6⟩:Cn)) hKK.out hlx
  have HE2:=lH hE2;have hl2:K2.length≤k+1+1:=SR;clear hx ht hE2 hlx;exact gN
 |have hKK2:Hid (K2=(b.chans.take (k+1)).filter (fun c => !decide (c.id=ch))):=SO;have HE2:=lH hE2;have hl2:K2.length≤k+1:=SR;clear hx ht hE2 hkx;go_wp2_with (at_builtin;refine I1 D4 Tryz.underlying50 rfl dC dC (fun _=>rfl) ER rfl _ _ rfl w2 _ KK rfl (AC.alloc ho5 _) _ (⟨x0,x1,x2,x3,x4,x5,x6⟩:Cn) rfl (BC _ _ _ rfl) oM (Nat.le_trans hB5.size (Aj _ _)) ?_)
  have C4x:=trivial;exact Lz):p:=h
theorem GW(h:p:=by
 exact h1 Gs):p:=h
theorem RM(h:p:=by
 go_wp2_with ((go_at_call 239;refine (CS _).mono ?_;rintro e w1 ⟨rfl,rfl⟩))
 all_goals
  go_ret
  exact ⟨CD JL,rfl⟩):p:=h
theorem nS(h:p:=by
 repeat (go_big_quiet_step (first | (go_at_call 233;first | with_reducible exact Calls.grew_of_same (AL _) | with_reducible exact Calls.grew_of_same (AR _))))
 first
 |clear B2r
  exact GS
 |exact GT):p:=h
theorem PR(h:p:=by
 exact absurd (HCD.out.symm.trans HCP.out) dC):p:=h
theorem ZV(h:p:=by
 rcases (show k=1∨k=2∨k=3∨k=4∨k=5∨k=6∨k=7∨k=8∨k=9∨k=10∨k=11 by omega) with rfl | rfl | rfl | rfl | rfl | rfl | rfl | rfl | rfl | rfl | rfl
 first
 |clear A2u
  ·rw [Mq,decide_eq_true_eq] at hg;rw [if_pos rfl] at hc;obtain ⟨h1,-⟩:=Ez hc oM;have h1:=of_decide_eq_false h1;exact yG h A3 A3 rfl
  ·rw [NK,decide_eq_true_eq] at hg;rw [if_neg oM,if_pos rfl] at hc;have C3A:=trivial;exact Pd
  ·rw [Kt,decide_eq_true_eq] at hg;rw [if_neg oM,if_neg oM,if_pos rfl] at hc;have C3B:=trivial;exact Pd
  ·rw [MY,decide_eq_true_eq] at hg;exact A2B h ⟨A3,A3⟩ A3 rfl
  ·rw [Mt,decide_eq_true_eq] at hg;rw [if_neg oM,if_neg oM,if_neg oM,if_neg oM,if_pos rfl] at hc;have C3C:=trivial;exact Pd
  ·rw [if_neg oM,if_neg oM,if_neg oM,if_neg oM,if_neg oM,if_pos (.inl rfl)] at hc;obtain ⟨h1,-⟩:=Ez hc oM;exact WM h LU (.inl rfl)
  ·rw [if_neg oM,if_neg oM,if_neg oM,if_neg oM,if_neg oM,if_pos (.inr rfl)] at hc;obtain ⟨h1,-⟩:=Ez hc oM;exact WM h LU (.inr rfl)
  ·rw [if_neg oM,if_neg oM,if_neg oM,if_neg oM,if_neg oM,if_neg oM,if_pos rfl] at hc;obtain ⟨h1,-⟩:=Ez hc oM;have h1:=of_decide_eq_false h1;have ht:=h.tick;unfold Am at ht;exact vt h oM rfl
  ·rw [NJ,decide_eq_true_eq] at hg;rw [if_neg oM,if_neg oM,if_neg oM,if_neg oM,if_neg oM,if_neg oM,if_neg oM,if_pos rfl] at hc;exact Pd
  ·have C4O:=trivial;exact tF
  exact tF
 |·rw [Mq,decide_eq_true_eq] at h;omega
  ·rw [NK,decide_eq_true_eq] at h;omega
  ·rw [Kt,decide_eq_true_eq] at h;omega
  ·rw [MY,decide_eq_true_eq] at h;omega
  ·rw [Mt,decide_eq_true_eq] at h;omega
  ·rw [Py,decide_eq_true_eq] at h;omega
  ·rw [QI,decide_eq_true_eq] at h;omega
  ·rw [Xg,decide_eq_true_eq] at h;omega
  ·rw [NJ,decide_eq_true_eq] at h;omega
  ·rw [QD,decide_eq_true_eq] at h;omega
  rw [Pf,decide_eq_true_eq] at h;omega):p:=h
theorem OT(h:p:=by
 clear u0 u1 u2 u3 u4 u5 u6 u7 u8 u9 u10 u11 u12 u13 r0 r1 r2 r3 r4 r5 s0 s1
 first
 |clear C43
  go_upto_region 11 with fail
  have B2R:=trivial;exact mw
 |clear C44
  go_upto_region 9 with fail
  exact mw
 |replace PX:=PX.keep bx;replace VX:=VX.keep bx;replace EV:=EV.keep bx;replace RX:=RX.keep bx;replace SX:=SX.keep bx;replace RV:=RV.keep bx;replace SV:=SV.keep bx;exact iD):p:=h
theorem TW(h:p:=by
 have CA:=Hi (.slice ax n cx) (.slice ay m cy) (.slice az q cz) b ch
 first
 |clear B0w
  obtain ⟨p0,p1,p2,p3,p4,p5⟩:=PB.c6;have e2:=PE.cell 2 _ rfl;go_wp2_with fail
  refine (CA _ V4).mono ?_;rintro e w10 ⟨rfl,bb⟩;have H:=H.keep bb;have PE:=PE.keep bb
  first
  |clear A9Y
   have PB:=PB.keep bb;have V4:=V4.keep bb;have WF:Wf g F F w9 w10:=Wf.of_below bb;clear CA e2 p0 p1 p2 p3 p4 p5;obtain ⟨yp,zp,lp,PP,-,-⟩:=H.cells;have q7:=PP.cell 7 _ rfl;cases hh:AI b.chans ch
   ·have ho3:=Wg (b:=b) (e:=⟨3,ky,ch,tt,am,fe,ys⟩) hn rfl (by dsimp only;rw [hh];rfl);rw [IW hh];clear hh HC3;exact mH
   obtain ⟨A,hA⟩:∃ A,A=AM b.chans ch:=⟨_,rfl⟩;have HC4:=HC3.out;rw [← hA] at HC4;obtain ⟨i,a,h1,h2,h3,h4,h5⟩:=EH hh;have e1:A=a:=hA.trans h4;subst e1;rw [h1];have bA:=MO hb ch;rw [← hA] at bA;obtain ⟨bA1,-,-,-⟩:=bA;unfold Am at bA1
   have hin:i<n:=by
    obtain ⟨a',n',c',e',-,-,Fs⟩:=V4.chans
    injection e' with _ e2 _
    rw [e2];have:=Fs.1;omega
   obtain ⟨gx,off,x,rfl,hgx0,-,⟨-,-,dk0,-,-,-,-⟩,hx,-⟩:=Bz.at_ V4.chans hin;have hxx:=hx.out;rw [h2] at hxx;obtain rfl:=Option.some.inj hxx;clear hx hxx;have hI0:decide ((0:Int)≤(i:Int))=true:=decide_eq_true oM;have hI1:(0:Int)≤(i:Int):=AA;have hI2:(i:Int)<(n:Int):=AA;have hbg:¬ ub=g:=fun e=>nB EN;have heg:¬ ue=g:=fun e=>nE EN;(have hgx:¬ gx=g:=fun e=>by have:=hrow gx off rfl oM;omega);have hwr1:IntKind.i64.wrap (b.wallet+A.loc)=b.wallet+A.loc:=Ao;have hwr2:IntKind.i64.wrap (b.wallet+A.loc - fe)=b.wallet+A.loc - fe:=Ao;have BD:Below w10 w10 w10.drew:=Below.drew (Below.refl _ _);have HD:=H.keep BD;have D7:=(PP.keep BD).cell 7 _ rfl;have DF:=(PP.keep BD).fz 7 AF;have dk:=BN BD dk0;have p2:=PB.cell 2 _ rfl;have p3:=PB.cell 3 _ rfl;have e5:=PE.cell 5 _ rfl;have hbl:=PB.lt;have HH:=lH hh;have HAA:=lH hA;clear hh hA h1 h2 h3 h4 h5;(go_upto_region 18 with fail);by_cases hv:1125899906842624<b.wallet+A.loc - fe;rotate_left
   ·have ev:decide (1125899906842624<b.wallet+A.loc - fe)=false:=decide_eq_false hv;have ho3:=Wg (b:=b) (e:=⟨3,ky,ch,tt,am,fe,ys⟩) hn rfl (by dsimp only;rw [HH.out,← HAA.out,ev];rfl);have B9I:=trivial;exact gp
   have ev:decide (1125899906842624<b.wallet+A.loc - fe)=true:=decide_eq_true hv
   have HC2:Hid (AQ b ⟨3,ky,ch,tt,am,fe,ys⟩=2):=by
    unfold Hid;rw [HC4,HH.out,ev];cases DH b ch<;>cases decide (A.loc<fe)<;>rfl
   exact gp
  |have WF:Wf g F F w9 w10:=Wf.of_below bb;clear CA e2 p0 p1 p2 p3 p4 p5;cases hh:AI b.chans ch
   ·have HC4:=lH (show AQ b ⟨4,ky,ch,tt,am,fe,ys⟩=6 by rw [HC0.out,hh];rfl);rw [IW hh];clear hh HC0;(go_wp2_with fail);refine (I4 F _ g B0 b [] 0 6 true w10 H dC).mono ?_;rintro e w11 ⟨rfl,H5,W5⟩;rw [show AG true 6 0=6 from rfl] at H5;(try go_wp2);go_meet
    case rel=>exact (show Dn _ _ _ _ _ _ _ from ⟨_,_,_,_,by rw [HC4.out];exact H5,WF.trans W5,fun e=>by rw [HC4.out] at e;cases e⟩)
   have HC4:=lH (show AQ b ⟨4,ky,ch,tt,am,fe,ys⟩=0 by rw [HC0.out,hh];rfl);obtain ⟨i,a,h1,hi,aid,hget,hlt⟩:=EH hh;rw [h1];obtain ⟨xx,nx,cxx,hxe,hnx,hcx,hrx⟩:=H.row;obtain ⟨gx,rfl,hgF⟩:=hrx oM;have C3U:=trivial;exact JY
 |clear B5O
  have CU:=A08 (.slice ax n cx) (.slice ay m cy) (.slice az q cz) b ch;rw [← hq7] at CU;have HQ7:=lH hq7;clear hq7;have hneq:¬ ue=g:=fun e=>nE EN;obtain ⟨p0,p1,p2,p3,p4,p5⟩:=P0.c6;have c2:=PE.cell 2 _ rfl;go_cut [4] (fun v wq=>v=(D9 b.chans ch)∧Below w0 w0 wq)
  case first =>
   go_region_with (go_at_call 138;refine (CA _ (V0.keep (bW))).mono ?_;rintro e w1 ⟨rfl,b1⟩)
   all_goals
    go_wp2_with fail
    go_meet
    case rel=>exact ⟨rfl,bW⟩
  case rest =>
   obtain ⟨rfl,b1⟩:=hcut;obtain ⟨w1,hw1⟩:∃ x,x=wc:=⟨_,rfl⟩;subst hw1;have H1:=H0.keep b1;have P1:=P0.keep b1;have V1:=V0.keep b1;have PE:=PE.keep b1;have WX:=W0.trans (Wf.of_below b1);clear p0 p1 p2 p3 p4 p5 c2 H0 P0 V0 W0 b1 CA;cases hh:AI b.chans ch
   ·(have hcd6:Hid (cd=6):=by unfold Hid;rw [HC.out,hh];cases q7<;>cases decide (A.loc<fe)<;>rfl);rw [IW hh];clear hh;(go_wp2_with fail);refine (I4 F _ g B b [] 0 6 true w1 H1 dC).mono ?_;rintro e w2 ⟨rfl,H2,W2⟩;rw [show AG true 6 0=6 from rfl] at H2;have WX:=WX.trans W2;have C0p:=trivial;exact Ie
   obtain ⟨i,a,h1,h2,h3,h4,h5⟩:=EH hh;have e1:A=a:=HA.out.trans h4;subst e1;rw [h1];have HH:=lH hh;have e0:decide ((i:Int)<0)=false:=decide_eq_false oM;clear hh h4 h1;obtain ⟨ar,nr,cr,hxe,p3,hnr,hncr,OR,VR,HR⟩:=H1.cn;have C3R:=trivial;exact JY
 |have hneq:¬ ue=g:=fun e=>nE EN;have HC:=lH hcode;clear hcode;exact TK):p:=h
theorem tB(h:p:=by
 have hPn:∃ gx,ax=some ⟨gx,0,none⟩:=by
  exact C26
 first
 |clear C3Y
  obtain ⟨gx,rfl⟩:=hPn
  have P2:∃ y z l,Bx wz g [b.tick,b.next,b.wallet, .slice (some ⟨gx,0,none⟩) n cx,y,z,l,I0]:=by
   exact tD
  obtain ⟨yp,zp,lp,P2⟩:=P2;have hic:i≤cx:=AA;have hi1':(0:Int)≤(i:Int)+1:=AA;have hi2':(i:Int)+1≤(n:Int):=AA;have hwi:IntKind.i64.wrap ((i:Int)+1)=(i:Int)+1:=Ao;have hfz:=P2.fz 3 AF;have hPl:=P2.lt;have VT:=fun w' (hw:Below wz wz w')=>VS.tk (VR.keep hw) (k:=i) oM;have VD:=fun w' (hw:Below wz wz w') (a':Option Addr) (ha:i+1<cx→a'=some ⟨gx,0+(i+1)*7,none⟩)=>VS.drop (VR.keep hw) (k:=i+1) oM ha;go_upto_region 6 with fail
  go_cut [] (fun wq=>∃ F' x',Wk F' x' wq g B {b with chans:=L} [] 0∧Wf g F F' wz wq)
  case first =>
   have OKS:=VR.oks;obtain ⟨L1,hL1⟩:∃ l,l=b.chans.take i:=⟨_,rfl⟩;obtain ⟨L2,hL2⟩:∃ l,l=b.chans.drop (i+1):=⟨_,rfl⟩;have B1F:=trivial;exact TZ
  case rest =>
   obtain ⟨F',x',H6,W6⟩:=hcut;obtain ⟨w8,hw8⟩:∃ x,x=wc:=⟨_,rfl⟩;subst hw8;clear H5 HR OR VR P2 hfz hPl VT VD p3;have H5:=H6;have C33:=trivial;exact MG
 |obtain ⟨gx,rfl⟩:=hPn;have AT:=H1.at h2 h3 hb.so;have H3:=lH h3;clear h3;have u0:=AT.1 0 _ rfl;have u1:=AT.1 1 _ rfl;have u2:=AT.1 2 _ rfl;have u3:=AT.1 3 _ rfl;have u4:=AT.1 4 _ rfl;have u5:=AT.1 5 _ rfl;have u6:=AT.1 6 _ rfl;simp only [Nat.add_zero] at u0;have hI1:(0:Int)≤(i:Int):=AA;have hI2:(i:Int)<(n:Int):=AA;go_wp2_with fail
  refine (Kl F _ g B b [] 0 6 w1 H1).mono ?_;rintro e w2 ⟨rfl,rfl⟩;go_upto_region 4 with fail
  refine cW fun w0 Q b4 => ?_;obtain ⟨uc,huc⟩:∃ u,u=w1.heap.size:=⟨_,rfl⟩;rw [← huc] at Q ⊢;have nQ:=H1.fresh;rw [← huc] at nQ;have PE:=PE.keep b4;have H0:=H1.keep b4;have P0:=P1.keep b4;have V0:=V1.keep b4;have WX:=WX.trans (Wf.of_below b4);clear AT u0 u1 u2 u3 u4 u5 u6 H1 P1 V1 b4 huc p3 HR OR VR;have hnuc:¬ uc=g:=fun e=>nQ EN;have B3o:=trivial;exact TK):p:=h
theorem nI(h:p:=by
 repeat (go_big_quiet_step (first | (go_at_call 238;first | exact Calls.grew_of_same (CH _)) | (go_at_call 231;first | exact Calls.grew_of_same (AL _))))
 first
 |clear B2g
  exact GS
 |exact GT):p:=h
theorem qD(h:p:=by
 have hno:Hid (Ak b=false):=by
  exact C0A
 first
 |clear B54
  have e2:decide (b.next<1)=true:=decide_eq_true hp2;exact BH
 |have e3:decide (1125899906842624<b.next)=true:=decide_eq_true hp3;exact BH):p:=h
theorem sQ(h:p:=by
 have hmf:∀ (fn:Fn) (first cap:Array Value) (w:World),(Instr.makeFunc fn first cap).run Tryz.prog w = .ok (.func fn first cap) w:=fun _ _ _ _=>rfl
 first
 |clear C07
  have p4:=P0.cell 4 _ rfl;have p5:=P0.cell 5 _ rfl;by_cases hm60:m≤60;rotate_left
  ·(have hno:Hid (CW b=false):=by unfold Hid;rw [JJ,HM.out,decide_eq_false hm60];rfl);exact BH
  by_cases hq20:q≤20;rotate_left
  ·(have hno:Hid (CW b=false):=by unfold Hid;rw [JJ,HQ.out,decide_eq_false hq20];simp);exact BH
  go_wp2;go_loopw [4,6,25] (fun ks _ i wr=>∃ (k:Nat) (v:Value) (KK:List Int),k≤m∧i=k∧ks=v∧Ds wr w0 v KK∧Hid ((b.htlcs.take k).map (·.key)=KK)∧Hid ((b.htlcs.take k).all (Dy b.chans)=true)∧KK.length≤k∧Below w0 w0 wr) (fun _ _ i _=>m - (intOf i).toNat)
  case atStart=>exact ⟨0,_,[],Nat.zero_le _,rfl,rfl,AC.nil _ _,rfl,rfl,AP,Below.refl _ _⟩
  case round =>
   obtain ⟨k,v,KK,hk,rfl,rfl,ho,hKK,hall,hKl,hB⟩:=hrel;have C2V:=trivial;exact Ol
 |go_enter Tryz.func125,Tryz.ntmps125
  have C1R:=trivial;exact JP):p:=h
theorem mX(h:p:=by
 have hn0:0<nl:=by
  exact C2s
 first
 |clear B1x
  have e31:((nl:Int) == 0)=false:=Le;have e33:(nl == 0)=false:=Le;have e34:¬ nl=0:=AA;have C2v:=trivial;exact sn
 |have e31:decide ((0:Int)<(nl:Int))=true:=decide_eq_true oM;have e32:decide (0<nl)=true:=decide_eq_true hn0;exact sn):p:=h
theorem qF(h:p:=by
 have hend:Hid (BQ d=pre):=by
  exact C3E
 first
 |clear B6A
  exact re
 |have CV:=zN k sq ep (.slice a4 bd.length c4) ob w5 ⟨_,_,_,rfl⟩ h1;clear hs hgo O4 ho4 c4' f4' P4 h1;exact UM):p:=h
theorem qG(h:p:=by
 have hend:Hid (BQ d=pre):=by
  exact C3F
 first
 |clear B6B
  exact re
 |have hk0:0<k:=by
   rcases Nat.eq_zero_or_pos k with h0 | h0
   ·exact absurd (by rw [wm (HPL.out.trans h0)];omega) h2
   exact h0
  obtain ⟨l,hl1,hl2⟩:=YI HPL.out hk0;have CV:=A10 k ep (.slice a4 bd.length c4) ob w0 pre us out l w5 ⟨_,_,_,rfl⟩ (BN b5 c4') (ho4.keep b5) HPL.out hk0 oM hl1 oM;clear hs hgo O4 ho4 c4' f4' P4 hl1 hl2;exact UM):p:=h
theorem rZ(h:p:=by
 have F1:=AT.2.2 4 am (fun c=>({c with base:=am}:Cn)) dC rfl ⟨aok.1,aok.2.1,aok.2.2.1,aok.2.2.2.1,Ct,aok.2.2.2.2.2.1,aok.2.2.2.2.2.2⟩
 first
 |clear B85
  have A2:=F1.1.at (ch:=ch) hm2 aid (D6 (fun _=>rfl) hb.so);have F2:=A2.2.2 5 fe (fun c=>({c with ppm:=fe}:Cn)) dC rfl ⟨aok.1,aok.2.1,aok.2.2.1,aok.2.2.2.1,Ct,Ct,aok.2.2.2.2.2.2⟩;have FW:=((Wf.of_below (g:=g) (F:=F) bb).trans (F1.2.trans F2.2)).trans (Wf.of_below (Below.drew (Below.refl _ _)));exact tE
 |clear AT;have HAI:=lH aid;clear aid;go_upto_region 24 with fail
  go_cut [] (fun wq=>wq=(w10.setCell ⟨gx,i*7+4,none⟩ am).drew)
  case first =>
   refine wp_region_noPanic ?_;refine wp_region_held_drew (S:=fun w'=>w'.cell? ⟨g,3,none⟩=some (.slice (some ⟨gx,0,none⟩) n1 c1)∧w'.cell? ⟨ue,4,none⟩=.some am) kR ?_ (fun hHeld => ?_)
   ·exact Bc
   have C3N:=trivial;exact Gt
  case rest =>
   have FH:=F1.1.keep (Below.drew (Below.refl _ _));have FW:=F1.2.trans (Wf.of_below (Below.drew (Below.refl _ _)));have FP:=(PP.otherC gx (i*7+4) am hng').keep (Below.drew (Below.refl _ _));have FE:=(PE.otherC gx (i*7+4) am hne').keep (Below.drew (Below.refl _ _));obtain ⟨w12,hw12⟩:∃ x,x=wc:=⟨_,rfl⟩;subst hw12;rw [← hcut] at FH FW FP FE;clear hcut H PE PP k4 z4 g3 e4 F1;have A2:=FH.at (ch:=ch) hm2 HAI.out (D6 (fun _=>rfl) hb.so);have k5:=A2.1 5 _ rfl;have z5:=A2.2.1 (i*7+5);have g3:=FP.cell 3 _ rfl;have e5:=FE.cell 5 _ rfl;have F2:=A2.2.2 5 fe (fun c=>({c with ppm:=fe}:Cn)) dC rfl ⟨aok.1,aok.2.1,aok.2.2.1,aok.2.2.2.1,Ct,Ct,aok.2.2.2.2.2.2⟩;have FW:=(WF.trans (FW.trans F2.2)).trans (Wf.of_below (Below.drew (Below.refl _ _)));have C3m:=trivial;exact tE):p:=h
theorem mT(h:p:=by
 obtain ⟨F',FK,FM,FW⟩:=HR wr (.slice ao L.length co) L (Ex.of_below hB _) (AC.le ho A58) (fun k hk=>Or.inr (Cj ho k hk).1) hok
 first
 |clear B1v
  have p4:=PX.cell 4 _ rfl;have z4:=PX.fz 4 AF;have C46:=trivial;exact tL
 |have p4:=PX.cell 5 _ rfl;have z4:=PX.fz 5 AF;exact tL):p:=h
theorem RT(h:p:=by
 have hba:Hid (∀ y∈a,-2305843009213693952≤y.amt∧y.amt≤2305843009213693952):=fun y hy=>hba1.out y (List.mem_cons_of_mem _ hy)
 first
 |clear A90
  have hbb:Hid (∀ y∈b,-2305843009213693952≤y.amt∧y.amt≤2305843009213693952):=fun y hy=>hbb1.out y (List.mem_cons_of_mem _ hy);have hxb:=hba1.out ⟨yk,yc,xa⟩ sM;have hyb:=hbb1.out ⟨yk,yc,ya⟩ sM;simp only [] at hxb hyb;simp only [List.length_cons] at hlen;have HL1:=lH hl1;have HL2:=lH hl2;clear hna hnb hl1 hl2 hba1 hbb1;exact Sk
 |have hbb:=hbb1;simp only [List.length_cons,List.length_nil] at hlen;clear hgo0 hgk0 hna hnb hba1 hbb1
  first
  |clear A39
   (go_upto_region 9 with fail);exact m7
  |have LES:=fun w=>Jq xk xc yk yc w;simp only [hl1] at LES;have HL1:=lH hl1;clear hl1;have B6n:=trivial;exact Sk):p:=h
theorem KQ(h:p:=by
 exact absurd A5T hxy):p:=h
theorem sI(h:p:=by
 obtain ⟨g,off,x0,x1,x2,x3,x4,x5,x6,rfl,hg,c0,c1,c2,c3,c4,c5,c6,o0,o1,o2,o3,o4,o5,o6,hx,ht⟩:=I8.cells (hs.keep hB) hlt
 first
 |clear C0Q
  clear o0 o1 o2 o3 o4 o5 o6 hown1;go_wp2_with fail
  refine (yF _ _ _ _ _ _ _ _).mono ?_;rintro e w2 ⟨rfl,hb2⟩
  have hown2:IU w2 w (some ⟨w,0,none⟩) len len xs k:=by
   exact MH
  have B51:=trivial;exact Ti
 |obtain ⟨g',off',z0,z1,z2,z3,z4,z5,z6,rfl,hg',d0,d1,d2,d3,d4,d5,d6,p0,p1,p2,p3,p4,p5,p6,hz,_⟩:=I8.cells (hs'.keep hB) hlt;have C24:=trivial;exact Sp):p:=h
theorem sJ(h:p:=by
 obtain ⟨g,off,x0,x1,x2,x3,x4,x5,x6,rfl,hg,c0,c1,c2,c3,c4,c5,c6,o0,o1,o2,o3,o4,o5,o6,hx,ht⟩:=Iv.cells (hs.keep hB) hlt
 first
 |clear C0R
  clear o0 o1 o2 o3 o4 o5 o6 hown1;go_wp2_with fail
  refine (zX _ _ _ _ _ _ _ _).mono ?_;rintro e w2 ⟨rfl,hb2⟩
  have hown2:Gz w2 w (some ⟨w,0,none⟩) len len xs k:=by
   exact MH
  have B52:=trivial;exact Ti
 |obtain ⟨g',off',z0,z1,z2,z3,z4,z5,z6,rfl,hg',d0,d1,d2,d3,d4,d5,d6,p0,p1,p2,p3,p4,p5,p6,hz,_⟩:=Iv.cells (hs'.keep hB) hlt;have C25:=trivial;exact Sp):p:=h
theorem sK(h:p:=by
 obtain ⟨g,off,x0,x1,x2,x3,x4,x5,x6,rfl,hg,c0,c1,c2,c3,c4,c5,c6,o0,o1,o2,o3,o4,o5,o6,hx,ht⟩:=It.cells (hs.keep hB) hlt
 first
 |clear C0S
  clear o0 o1 o2 o3 o4 o5 o6 hown1;go_wp2_with fail
  refine (zV _ _ _ _ _ _ _ _).mono ?_;rintro e w2 ⟨rfl,hb2⟩
  have hown2:IH w2 w (some ⟨w,0,none⟩) len len xs k:=by
   exact MH
  exact Ti
 |obtain ⟨g',off',z0,z1,z2,z3,z4,z5,z6,rfl,hg',d0,d1,d2,d3,d4,d5,d6,p0,p1,p2,p3,p4,p5,p6,hz,_⟩:=It.cells (hs'.keep hB) hlt;exact Sp):p:=h
theorem RR(h:p:=by
 rcases hu with rfl | rfl | rfl | rfl | rfl | rfl | rfl<;>rfl):p:=h
theorem aT(h:p:=by
 have hend:Hid (BQ d=pre):=by
  exact C3L
 first
 |clear B7P
  go_upto_region 10 with fail
  refine cW fun w5 P5 b5 => ?_;have HO:=ho4.keep b5;have B5:=AD b5 hB4;have hBw5:=AD B5 B0;clear hs hgo b5 hB4 ho4;exact UK
 |have C0H:=trivial;exact qH):p:=h
theorem Pe(h:p:=by
 exact ⟨.inr ⟨hres.out,rfl⟩,bW⟩):p:=h
theorem fi(h:p:=by
 exact ⟨⟨(F1 ++ F2) ++ F3,_,_,_,rfl,⟨F1,F2,F3,⟨q1.le oM,q2.le oM,q3.le oM⟩,rfl,hd,hint.out⟩⟩,BF⟩):p:=h
theorem sh(h:p:=by
 have hbok:∀ y∈EE,Ln.ok y:=fun y hy=>by
  exact C4V
 first
 |clear C2a
  have VE:BE w7 w7 (.slice oa EE.length oc) EE:=AC.vs (fun _=>rfl) (AC.keep O9 b5) hbok;have CA:=U6 _ EE xk xc xa w7 VE oM (fun y hy=>by have:=hEb.out y hy;omega) oM;have z7:=b5.size;have q1:=QX7.cell 1 _ rfl;obtain ⟨p0,p1,p2⟩:=P5.c3;clear c0 c1 c2 hbok VE;go_wp2_with fail
  refine CA.mono ?_;rintro e w8 ⟨⟨v8,rfl,O8⟩,b8⟩;obtain ⟨E2,hE2⟩:∃ z,z=At EE ⟨xk,xc,xa⟩:=⟨_,rfl⟩;have hl2:=YB EE ⟨xk,xc,xa⟩;rw [← hE2] at O8 hnx hl2;obtain ⟨a8,c8,rfl⟩:=Bl.form O8;have QX8:=QX7.keep b8;have TX8:=TX7.keep b8;have z8:=b8.size;have hB8:Below bw w6 w8:=hB.trans (((b5.mono zB).trans (b8.mono oM)).mono z9)
  have hEb2:Hid (∀ y∈E2,(AE y.kind∧AE y.ch) ∧ -(1125899906842624*(((k+1:Nat):Int)+1))≤y.amt∧y.amt≤1125899906842624*(((k+1:Nat):Int)+1)):=fun y hy=>by
   rw [hE2] at hy;have h1:=Ky EE [⟨xk,xc,xa⟩] (fun y hy=>(hEb.out y hy).1) (fun y hy=>by simp at hy;subst hy;exact ⟨hxk.1,hxk.2.1⟩) y hy;have h2:=K7 (1125899906842624*((k:Int)+1)) 1125899906842624 oM EE [⟨xk,xc,xa⟩] (fun y hy=>(hEb.out y hy).2) (fun y hy=>by simp at hy;subst hy;exact hxb) oM y hy;exact ⟨h1,AA⟩
  have HE2:=lH hE2;have q1:=QX8.cell 1 _ rfl;have y1:=QX8.fz 1 EM;have hE9:Hid (E2=(p.lines.take (k+1)).foldl At l.lines):=hnx.out.symm;clear CA P5 p0 p1 p2 QX QX7 TX TX7 hE2 hnx O9 b5 b8;go_wp2;go_roundw
  case rel=>exact ⟨k+1,E2,a8,c8,AA,Ab,QX8.set1 1 _ EM,AC.kept (AC.le O8 oM) (Ex.setCell (Ex.refl [ob] w8) sM _) (fun k hk hm=>by simp at hm;subst hm;exact TX8.ne O8 dC hk),TX8.set _ _ _,hE9,AA,hEb2,Below.setCell hB8 (by simpa using hob) _⟩
  case measure=>simp only [intOf];omega
 |have HOKS:=lH hbok;have VE:BE wr wr (.slice oa EE.length oc) EE:=AC.vs (fun _=>rfl) O9 hbok;have RX:=RX.keepL hB hRX;have CL:=MJ p.id _ EE wr VE;have hBw:=B9.trans (hB.mono hwb);obtain ⟨q0,q1⟩:=QX.c2;have hpo:=HPO.out;rw [← hEE2] at hpo;have HEE:=lH hEE2;clear hbok VE hEE2 p1;go_wp2_with fail
  refine CL.mono ?_;rintro e w8 ⟨rfl,b8⟩;rw [hpo];have QX8:=QX.keep b8;have RX8:=RX.keep b8;have O8:Bl w8 bw (.slice oa EE.length oc) EE:=AC.keep O9 b8;have B8:=AD b8 hBw;obtain ⟨r0,r1⟩:=RX8.c2;obtain ⟨z0,z1⟩:=RX8.z2;clear CL QX RX O9 q0 q1 b8 hpo
  cases hm:(Au l.lines p.lines && decide (EE.length≤320)) with
  | true =>
   have hres:Hid (BV l p=(0,⟨p.id,EE⟩)):=by
    unfold Hid BV;rw [HL.out,HP.out,Bool.true_and,if_neg sM,if_neg Lj,← HEE.out,hm,if_neg sM]
   obtain ⟨q0,q1⟩:=QX8.c2;clear QX8 hm;go_wp2;refine bodyPost_ret R8 rfl ?_;have hlb:=HLB.out;rw [hres.out];dsimp only;refine ⟨⟨_,_,rfl,_,RwO.mk' (AC.le (AC.putB (AC.putB O8 hRX) hRX) oM) HOKS.out,rfl,GA _,KD⟩,Below.setCell (Below.setCell B8 Nv _) Nv _⟩
  | false =>
   have hres:Hid (BV l p=(3,Lg.zero)):=by
    unfold Hid BV;rw [HL.out,HP.out,Bool.true_and,if_neg sM,if_neg Lj,← HEE.out,hm,if_pos rfl]
   clear QX8 hm RX8;go_wp2;refine bodyPost_ret R8 rfl ?_;have hlb:=HLB.out;refine ⟨⟨[], .slice none 0 0,Ru,de⟩,Below.setCell (Below.setCell B8 Nv _) Nv _⟩):p:=h
theorem Of(h:p:=by
 first | omega | (simp at h;omega)):p:=h
theorem nN(h:p:=by
 repeat (go_big_quiet_step (first | (go_at_call 233;first | with_reducible exact Calls.grew_of_same (AL _))))
 first
 |clear B2o
  exact GS
 |exact GT):p:=h
theorem Rh(h:p:=by
 refine ⟨?_,?_,?_,?_⟩<;>(try dsimp only)<;>omega):p:=h
theorem sX(h:p:=by
 have hKK2:Hid ((b.htlcs.take (k+1)).map (·.key)=KK ++ [x.key]):=by unfold Hid;rw [YK _ ht.out,hKK.out]
 first
 |clear C2G
  clear c0 c1 c2 c3 c4 c5 c6 ho hB hBw b5 hx ht;obtain ⟨x0,x1,x2,x3,x4,x5,x6⟩:=P5.c7;exact jH
 |clear hx ht hok k0 k1 k2;obtain ⟨x0,x1,x2,x3,x4,x5,x6⟩:=P6.c7;exact jF):p:=h
theorem sL(h:p:=by
 obtain ⟨g,off,x0,x1,x2,x3,x4,rfl,hg,c0,c1,c2,c3,c4,o0,o1,o2,o3,o4,hx,ht⟩:=JE.cells (hs.keep hB) hlt
 first
 |clear C0T
  clear o0 o1 o2 o3 o4 hown1;go_wp2_with fail
  refine (A1K _ _ _ _ _ _).mono ?_;rintro e w2 ⟨rfl,hb2⟩
  have hown2:HV w2 w (some ⟨w,0,none⟩) len len xs k:=by
   exact MH
  have hB2:Below w w w2:=AD hb2 hB;obtain ⟨g',y0,y1,y2,y3,y4,rest,e',hg',hr,ho,d0,d1,d2,d3,d4,hfz⟩:=hown2.open_ Hxl.out hlt;have B5z:=trivial;exact Tj
 |obtain ⟨g',off',z0,z1,z2,z3,z4,rfl,hg',d0,d1,d2,d3,d4,p0,p1,p2,p3,p4,hz,_⟩:=JE.cells (hs'.keep hB) hlt;have he:=hz.out;rw [hx.out] at he
  injection he with he
  injection he with e0 e1 e2 e3 e4
  subst e0 e1 e2 e3 e4;clear o0 o1 o2 o3 o4 p0 p1 p2 p3 p4 hx ht hz;have B97:=trivial;exact Sq):p:=h
theorem J7(h:p:=by
 unfold maxLen;omega):p:=h
theorem aQ(h:p:=by
 have hend:Hid (BQ d=pre):=by
  exact C3M
 first
 |clear B7O
  have HO:=ho;clear hgo;exact UK
 |clear hgo P1 V1;go_wp2;go_end0
  exact ⟨rfl,_,us,hc,by rw [hend.out];exact ho.le oM,F,(Ex.of_below B0 F).trans HX.out,fun b hb=>by rcases HF.out b hb with h | h<;>omega⟩):p:=h
theorem Tr(h:p:=by
 exact absurd (HCX.out.symm.trans HCQ.out) dC):p:=h
theorem tJ(h:p:=by
 exact J2 hn (GA v') hfr (fun k hk=>(a0.lt k hk).2) (fun k hk=>(a2.lt k hk).2)):p:=h
theorem rK(h:p:=by
 first | exact ⟨⟨_,rfl,KH⟩,bW⟩ | exact ⟨Or.inl ⟨rfl,hno.out⟩,bW⟩):p:=h
theorem TM(h:p:=by
 have:=s2 x;unfold BU;simp only;omega):p:=h
theorem TL(h:p:=by
 have:=s1 x;unfold BJ;simp only;omega):p:=h
theorem rJ(h:p:=by
 exact ⟨⟨false,rfl,KH⟩,bW⟩):p:=h
theorem T5(h:p:=by
 exact hxy (Option.some.inj h1).symm):p:=h
theorem aP(h:p:=by
 exact Ex.setCell (HX.out.more (fun k hk=>List.mem_cons_of_mem _ hk)) sM _):p:=h
theorem ZP(h:p:=by
 rw [if_pos e1,if_neg oM,if_pos e1,if_neg oM,if_neg oM,if_pos oM];omega):p:=h
theorem ZQ(h:p:=by
 rw [if_neg e1,if_pos e2,if_neg e1,if_pos e2,if_pos oM,if_neg oM];omega):p:=h
theorem ZR(h:p:=by
 rw [if_pos e1,if_neg oM,if_pos e1,if_neg oM,if_pos oM,if_neg oM];omega):p:=h
theorem ZS(h:p:=by
 rw [if_neg e1,if_pos e2,if_neg e1,if_pos e2,if_neg oM,if_pos oM];omega):p:=h
theorem rq(h:p:=by
 exact ⟨⟨_,rfl,by rw [hend.out];exact own'⟩,AD b2 hB⟩):p:=h
theorem Zl(h:p:=by
 exact ⟨⟨_,rfl,by rw [← hbe.out];simpa [be] using ho⟩,hb⟩):p:=h
theorem ZN(h:p:=by
 exact ⟨q.id,q.loc,q.rem,q.base,q.ppm,q.score,q.size,q.sum⟩):p:=h
end
end Go.Proofs.YtahefgkdbecemaaGreat
