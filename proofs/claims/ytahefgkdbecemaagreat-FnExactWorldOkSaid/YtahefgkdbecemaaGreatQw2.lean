/- The walks and the laws they lean on. -/
import Derived.Test.YtahefgkdbecemaaGreatQ0
import GoSem.Claim
import GoSem.ClaimJoined
import GoSem.ClaimMapViews
import Derived.JoinedTies
import Derived.KernelRfl
import Derived.WalkKit
import Derived.WalkSpells
import Derived.WalkLawsBesides
import Derived.IntWalk
import Derived.BigQuiet
import Derived.Deep.QuietTactic
import Derived.Lib.Hide
import Derived.Laws.AppendOwnNone
import Derived.Maps.AppendAt
import Derived.Lib.AtoiErrMem
import Derived.Deep.MidRow
import Derived.OrdersHeld
import Derived.Deep.RegionHeld3
import Derived.Laws.BitsAllLaws
import Derived.Lib.ItoaNum
import Derived.Deep.CutBlock
import Derived.Deep.DeepCutAuto
import Derived.Laws.MathBits
import Derived.Deep.RegionWith
import Derived.Laws.OwnMore
import Derived.Deep.RegionLaw
import Derived.Laws.IdiomStrings
import Derived.BigRegion
import Derived.ProofKit
import Derived.OpenShut
import Derived.ShutString
import Derived.ChangeOld
import Derived.Below
import Derived.Lib.SmallJoins
import Derived.Deep.Fields
import Derived.Deep.Slices
namespace Go.Proofs.YtahefgkdbecemaaGreat
open Go.RowKit
set_option linter.unusedVariables false
set_option linter.unusedSimpArgs false
set_option maxRecDepth 100000
set_option maxHeartbeats 12800000
section
variable {p:Prop}
theorem FV(h:p:=by
 go_simp;refine sO hK fun hHeld => ?_;clear hK K
 first
 |clear C0q
  refine wpAnyH_ready (rs := [17]) kR sM ?_;exact fJ
 |clear C0r
  refine wpAnyH_ready (rs := [18]) kR sM ?_;exact fK
 |clear A76
  refine tH 11 fun K hK => ?_;have C0s:=trivial;exact FV
 |clear C0s
  refine tK 12 ?_;have C0t:=trivial;exact FY
 |clear A8h
  refine tK 5 ?_;have C0u:=trivial;exact FY
 |clear B6Q
  refine tK 9 ?_;refine tK 10 ?_;refine tH 11 fun K hK => ?_;go_simp;have C0v:=trivial;exact Om
 |clear B2T
  refine tH 3 fun K hK => ?_;refine Dc Js Tryz.underlying58 rfl dC dC (fun _=>rfl) LJ rfl _ _ rfl w9 _ [] rfl (by first | exact AC.drew (AC.made w9 w9 (Nat.le_refl _)) | exact AC.made _ _ sM) _ h.sent rfl (VX.sent.keep (bW)) sM oM JS ?_;intro v10 w10 o10 b10 g10;have B10:Below w9 w9 w10:=Below.trans (bW) b10;have E10:=PX.keep B10;have f12:=E10.cell 12 _ rfl;have f13:=E10.cell 13 _ rfl;rw [List.nil_append] at o10;obtain ⟨a10,k10,rfl,-⟩:=AC.of (ok:=fun _=>True) o10 (fun _ _=>trivial);refine sO hK fun hHeld => ?_;clear hK K;refine tH 6 fun K hK => ?_;refine Dc Js Tryz.underlying58 rfl dC dC (fun _=>rfl) LJ rfl _ _ rfl w9 _ h.sent rfl o10 _ h.wait rfl (VX.wait.keep B10) oM oM (by first | exact B10.size | omega) ?_;intro v11 w11 o11 b11 g11;have B11:Below w9 w9 w11:=Below.trans B10 b11;have E11:=PX.keep B11;have f112:=E11.cell 12 _ rfl;have f113:=E11.cell 13 _ rfl;obtain ⟨a11,k11,hv,-⟩:=AC.of (ok:=fun _=>True) o11 (fun _ _=>trivial);exact pF
 |clear B6L
  refine tH 7 fun K hK => ?_;have C0w:=trivial;exact FV
 |clear C0w
  refine tK 8 ?_;have C0x:=trivial;exact FY
 |clear B6K
  refine tH 6 fun K hK => ?_;have C0y:=trivial;exact FV
 |clear C0y
  refine tK 7 ?_;exact FY
 |first
  |clear A6e
   refine wpAnyH_ready (rs := [18]) kR sM ?_;refine AllReadyH.cons rfl (fun K hK => ?_) AllReadyH.nil;refine Jx IM Tryz.underlying52 rfl dC dC (fun _=>rfl) I3 rfl _ _ rfl B (.slice ar nr cr) b.circles rfl dy _ (⟨ky,ch,tt,am,fe⟩:Ci) rfl (BC _ _ _ rfl) N1 dz ?_;have C0z:=trivial;exact Ou
  |clear A6f
   refine wpAnyH_ready (rs := [19]) kR sM ?_;refine AllReadyH.cons rfl (fun K hK => ?_) AllReadyH.nil;refine Jx Hz Tryz.underlying51 rfl dC dC (fun _=>rfl) JI rfl _ _ rfl B (.slice ar nr cr) b.htlcs rfl dy _ (⟨ky,ch,tt,am+fv,am,rv == 2,0⟩:Ht) rfl (BC _ _ _ rfl) N1 dz ?_;have C00:=trivial;exact Ou
  |clear B2z
   have C01:=trivial;exact FY
  |refine wpAnyH_ready (rs := [5]) kR sM ?_
   first
   |clear C02
    exact fJ
   |exact fK):p:=h
theorem Gw(h:p:=by
 go_wp2;go_ret;exact ⟨⟨_,rfl, .inl rfl⟩,bW⟩):p:=h
theorem IZ(h:p:=by
 obtain ⟨k,hk,rfl,hB⟩:=hrel;by_cases hlt:k<len;rotate_left
 ·go_wp2;go_ret;exact ⟨rfl,hB⟩
 first
 |clear A2b
  exact sI
 |clear A2d
  exact sJ
 |clear A2f
  exact sK
 |clear A2h
  exact sL
 |clear A2i
  obtain ⟨g,off,x0,x1,x2,rfl,hg,c0,c1,c2,o0,o1,o2,hx,ht⟩:=GE.cells (hs.keep hB) hlt;obtain ⟨g',off',z0,z1,z2,rfl,hg',d0,d1,d2,p0,p1,p2,hz,_⟩:=GE.cells (hs'.keep hB) hlt;have he:=hz.out;rw [hx.out] at he
  injection he with he
  injection he with e0 e1 e2
  subst e0 e1 e2;clear o0 o1 o2 p0 p1 p2 hx ht hz;have B96:=trivial;exact Sq
 |clear A2v
  obtain ⟨g,off,x,rfl,hg,c0,hx,ht⟩:=BtF.cell (hs.keep hB) hlt;obtain ⟨g',off',y,rfl,hg',d0,hy,-⟩:=BtF.cell (hs'.keep hB) hlt;have he:=hx.out;rw [hy.out] at he;obtain rfl:=Option.some.inj he;clear hx hy ht he;go_wp2;all_goals (try (go_quiet (fail));try go_wp2)
  go_roundw
  case rel=>exact ⟨k+1,AA,Ab,bW⟩
  case measure=>simp [intOf];omega
 |obtain ⟨a0,len0,cap0,e0,-,-,-,-,hat⟩:=VN.at_ (W0.keep hB)
  injection e0 with e1 e2 e3
  subst e1;subst e2;subst e3;obtain ⟨g,off,x,u,rfl,hg,hok,hu,hc,hx,ht⟩:=hat k hlt;clear hat;obtain ⟨a0,len0,cap0,e0,-,-,-,-,hat⟩:=VN.at_ (W1.keep hB)
  injection e0 with e1 e2 e3
  subst e1;subst e2;subst e3;obtain ⟨g',off',x',u',rfl,hg',hok',hu',hd,hx',ht'⟩:=hat k hlt;obtain rfl:x=x':=Option.some.inj (hx.out.symm.trans hx'.out);obtain ⟨a1,n1,cp1,hv,-,-,-⟩:=id hu;subst hv;obtain ⟨a2,n2,cp2,hv,-,-,-⟩:=id hu';subst hv;have c0:=hc 0 _ rfl
  first
  |clear C03
   rw [show off+k*Bm.sz+0=off+k by show off+k*1+0=_;omega] at c0;have d0:=hd 0 _ rfl;rw [show off'+k*Bm.sz+0=off'+k by show off'+k*1+0=_;omega] at d0;clear hc hd hat;go_wp2_with fail
   go_region_held3 (fun w'=>w'.cell? ⟨g,off+k,none⟩=some (.slice a1 n1 cp1)∧w'.cell? ⟨g',off'+k,none⟩=some (.slice a2 n2 cp2)) (go_keep) (first
    | (go_at_call 228;refine (tz _ _ (x) _ (hu.keep (bW)) (hu'.keep (bW))).mono ?_;rintro e w2 ⟨rfl,hb2⟩;have hB2:=AD hb2 (bW:Below w w _);have c0x:=BN (AD hb2 (show Below wr wr _ from bW)) c0;have d0x:=BN (AD hb2 (show Below wr wr _ from bW)) d0))
   all_goals
    go_wp2
    go_roundw
    case rel=>exact ⟨k+1,AA,Ab,hB2⟩
    case measure=>simp [intOf];omega
  |have C04:=trivial;exact Tw):p:=h
theorem KB(h:p:=by
 obtain ⟨a,len,cap,rfl,-,-,hs⟩:=V0;obtain ⟨a',len',cap',rfl,-,-,hs'⟩:=V1;obtain rfl:len=len':=hs.1.symm.trans hs'.1
 first
 |clear A25
  exact yV a len cap a' cap' xs w hs hs'
 |clear A26
  exact xE a len cap a' cap' xs w hs hs'
 |clear A27
  exact xj a len cap a' cap' xs w hs hs'
 |clear A28
  exact xV a len cap a' cap' xs w hs hs'
 |clear A29
  exact wV a len cap a' cap' xs w hs hs'
 |refine (uK a len cap a' len cap' xs xs w (Cm.is hs) (Cm.is hs')).mono ?_;rintro e w' ⟨rfl,hb⟩;exact ⟨Ag (decide_eq_true rfl),hb⟩):p:=h
theorem GV(h:p:=by
 go_upto_region 1 with fail
 refine cW fun w0 P0 B0 => ?_;have V0:=V.keep B0
 first
 |clear C05
  exact pn
 |clear B70
  have c70:=BN B0 c7;obtain ⟨r0,r1,r2⟩:=P0.c3;have z0:=P0.fz 0 dC;have z1:=P0.fz 1 dC;have z2:=P0.fz 2 dC;have P0l:=P0.lt;by_cases h7:x7.toNat≤100;rotate_left
  ·have hno:Hid (Ca xs=none):=QZ Nm;go_wp2;refine bodyPost_ret Rx rfl ?_;exact ⟨.inr ⟨hno.out,rfl⟩,bW⟩
  exact sN
 |clear C06
  have C07:=trivial;exact sQ
 |clear C08
  have p3:=P0.cell 4 _ rfl;go_wp2;go_loopw [5,6,10] (fun _ _ i wr=>∃ k:Nat,k≤m∧i=k∧Hid ((b.htlcs.take k).all (fun y => !decide (y.key=key))=true)∧Below w0 w0 wr) (fun _ _ i _=>m - (intOf i).toNat)
  case atStart=>exact ⟨0,Nat.zero_le _,rfl,rfl,Below.refl _ _⟩
  case round =>
   have C09:=trivial;exact JZ
 |clear C1A
  have p3:=P0.cell 5 _ rfl;go_wp2;go_loopw [5,6,10] (fun _ _ i wr=>∃ k:Nat,k≤q∧i=k∧Hid ((b.circles.take k).all (fun y => !decide (y.key=key))=true)∧Below w0 w0 wr) (fun _ _ i _=>q - (intOf i).toNat)
  case atStart=>exact ⟨0,Nat.zero_le _,rfl,rfl,Below.refl _ _⟩
  case round =>
   have C1B:=trivial;exact JZ
 |clear B5h
  have p4:=P0.cell 4 _ rfl;go_wp2
  first
  |clear C1C
   go_loopw [6,7,9,15] (fun o t _ i wr=>∃ k:Nat,k≤m∧i=k∧o=(((b.htlcs.take k).map (BS ch)).sum)∧t=(((b.htlcs.take k).map (Bb ch)).sum)∧Below w0 w0 wr) (fun o t _ i _=>m - (intOf i).toNat)
   case atStart=>exact ⟨0,Nat.zero_le _,rfl,rfl,rfl,Below.refl _ _⟩
   case round =>
    obtain ⟨k,hk,rfl,rfl,rfl,hB⟩:=hrel;have C1D:=trivial;exact sR
  |clear C1E
   go_loopw [5,7,13] (fun o _ i wr=>∃ k:Nat,k≤m∧i=k∧o=(((b.htlcs.take k).map (BS ch)).sum)∧Below w0 w0 wr) (fun o _ i _=>m - (intOf i).toNat)
   case atStart=>exact ⟨0,Nat.zero_le _,rfl,rfl,Below.refl _ _⟩
   case round =>
    obtain ⟨k,hk,rfl,rfl,hB⟩:=hrel;exact sR
  |clear C1F
   go_loopw [5,7,13] (fun t _ i wr=>∃ k:Nat,k≤m∧i=k∧t=(((b.htlcs.take k).map (Bb ch)).sum)∧Below w0 w0 wr) (fun t _ i _=>m - (intOf i).toNat)
   case atStart=>exact ⟨0,Nat.zero_le _,rfl,rfl,Below.refl _ _⟩
   case round =>
    obtain ⟨k,hk,rfl,rfl,hB⟩:=hrel;have hBw:=AD hB B0;have hbU:=Pq hP ch k;generalize hU:((b.htlcs.take k).map (Bb ch)).sum=U at hbU ⊢;have hU:=lH hU;by_cases hlt:k<m
    ·have C1G:=trivial;exact In
    have p5:=(P0.keep hB).cell 5 _ rfl;exact sA
  |go_loopw [6,12] (fun _ i wr=>∃ k:Nat,k≤m∧i=k∧Hid ((b.htlcs.take k).all (fun y => !decide (y.inn=ch∨y.out=ch))=true)∧Below w0 w0 wr) (fun _ i _=>m - (intOf i).toNat)
   case atStart=>exact ⟨0,Nat.zero_le _,rfl,rfl,Below.refl _ _⟩
   case round =>
    exact A9r
 |clear B5q
  obtain ⟨p0,p1,p2,p3,p4,p5⟩:=P0.c6;go_wp2_with fail
  first
  |clear C1H
   refine (Az b.tick _).mono ?_;have B4O:=trivial;exact oe
  |clear C1I
   refine (BP b.tick _).mono ?_;exact oe
  |refine (YH _ _ _ b key w0 V0).mono ?_;rintro e w1 ⟨rfl,b1⟩;have P1:=P0.keep b1;have B1:=AD b1 B0;have V1:=V0.keep b1;clear p0 p1 p2 p3 p4 p5;have hge:=A2G b key;generalize Fc b.htlcs key=hi at hge ⊢
   cases hh:Aw b key with
   | true =>
    rw [hh] at hge;have HH:=lH hh;clear hh;go_wp2;go_ret;exact ⟨Ag (by rw [HH.out];rfl),B1⟩
   | false =>
    rw [hh] at hge;have HH:=lH hh;clear hh;obtain ⟨p0,p1,p2,p3,p4,p5⟩:=P1.c6;(go_wp2_with fail);refine (YA _ _ _ b key w1 V1).mono ?_;rintro e w2 ⟨rfl,b2⟩;have B2:=AD b2 B1;clear p0 p1 p2 p3 p4 p5;have hgo:=A2U b key;generalize Fe b.circles key=ci at hgo ⊢
    cases ho:Ay b key with
    | true =>
     exact pW
    | false =>
     exact pW
 |clear B7U
  rw [HM.out] at h60;rw [HQ.out] at h20
  first
  |clear C1J
   have O1:Ds (w0.alloc (.cells #[] 3)) w0 (.slice (some ⟨w0,0,none⟩) 0 0) []:=AC.made (enc:=DI) (sz:=1) (E:=3) w0 w0 (Nat.le_refl _);have b1:=bA w0 [] 3;(go_upto_region 2 with fail);generalize w0.alloc (.cells #[] 3)=w1 at O1 b1 ⊢;have P1:=P0.keep b1;have p4:=P1.cell 4 _ rfl;clear P1;go_wp2;go_loopw [3,5,12] (fun ks _ i wr=>∃ (k:Nat) (v:Value) (KK:List Int),k≤m∧i=k∧ks=v∧Ds wr w0 v KK∧Hid ((b.htlcs.take k).map (·.key)=KK)∧KK.length≤k∧Below w0 w0 wr) (fun _ _ i _=>m - (intOf i).toNat)
   case atStart=>exact ⟨0,_,[],Nat.zero_le _,rfl,rfl,O1,rfl,AP,b1⟩
   case round =>
    obtain ⟨k,v,KK,hk,rfl,rfl,ho,hKK,hKl,hB⟩:=hrel;have C1K:=trivial;exact Ol
  |have p4:=P0.cell 4 _ rfl;go_wp2;go_loopw [4,13] (fun _ i wr=>∃ k:Nat,k≤m∧i=k∧Hid ((b.htlcs.take k).all (Dy b.chans)=true)∧Below w0 w0 wr) (fun _ i _=>m - (intOf i).toNat)
   case atStart=>exact ⟨0,Nat.zero_le _,rfl,rfl,Below.refl _ _⟩
   case round =>
    have C1L:=trivial;exact JZ
 |have p3:=P0.cell 3 _ rfl;go_wp2
  first
  |clear C1M
   go_loopw [5,6,10] (fun _ _ i wr=>∃ k:Nat,k≤n∧i=k∧Hid ((b.chans.take k).all (fun y => !decide (y.id=ch))=true)∧Below w0 w0 wr) (fun _ _ i _=>n - (intOf i).toNat)
   case atStart=>exact ⟨0,Nat.zero_le _,rfl,rfl,Below.refl _ _⟩
   case round =>
    have C1N:=trivial;exact JZ
  |go_loopw [5,9] (fun _ i wr=>∃ k:Nat,k≤n∧i=k∧Hid ((b.chans.take k).all (fun y => !decide (y.id=ch))=true)∧Below w0 w0 wr) (fun _ i _=>n - (intOf i).toNat)
   case atStart=>exact ⟨0,Nat.zero_le _,rfl,rfl,Below.refl _ _⟩
   case round =>
    exact JZ):p:=h
theorem FZ(h:p:=by
 go_wp2;go_ret;exact ⟨SL,BX⟩):p:=h
theorem GM(h:p:=by
 go_wp2;go_ret;exact ⟨Ag FI,bW⟩):p:=h
theorem fB(h:p:=by
 rintro e wA ⟨he,rfl⟩
 obtain ⟨sv,okv,rfl,hsv⟩:∃ sv okv,e = .returned (.tuple #[.int .i64 sv, .bool okv])∧((okv=true∧sv=am+fv∧CE am fv=true)∨(okv=false∧sv=0∧CE am fv=false)):=by
  cases hs:CE am fv with
  | true =>
   rw [if_pos hs] at he;exact ⟨_,_,he,Or.inl ⟨rfl,rfl,rfl⟩⟩
  | false =>
   rw [if_neg (by simp [hs])] at he;exact ⟨_,_,he,Or.inr ⟨rfl,rfl,rfl⟩⟩
 have HSV:=lH hsv
 first
 |clear A6U
  clear he c4 hsv t4 t5 CF;go_upto_region 6 with fail
  obtain ⟨y0,z0,l0,P0,V0,-⟩:=H5.cells;obtain ⟨ay,m,cy,rfl,-,-⟩:=VS.form V0.htlcs;obtain ⟨az,q,cz,rfl,-,-⟩:=VS.form V0.circles;have aok:=H5.oks A (List.mem_of_getElem? ai);have dok:=H5.oks D (List.mem_of_getElem? di);exact sS
 |clear he c4 hsv;go_upto_region 7 with fail
  go_cut [] (fun wq=>Wk F (.slice ax n cx) wq g B b [] (AG (!(fb && okv)) 10 k4)∧Wf g F F w7 wq)
  case first =>
   cases fb with
   | false =>
    exact pG
   | true =>
    exact pG
  case rest =>
   clear H5;obtain ⟨H5,W6⟩:=hcut;obtain ⟨w6,hw6⟩:∃ x,x=wc:=⟨_,rfl⟩;subst hw6;have C1O:=trivial;exact MA):p:=h
theorem LW(h:p:=by
 rintro e w' ⟨⟨a',c',rfl,ho⟩,hb⟩;refine ⟨⟨_,rfl,?_⟩,hb⟩;have:=OF.own ho;exact this):p:=h
theorem sT(h:p:=by
 refine ⟨rfl,_,_,_,_,H5,WX,?_⟩;try intro _
 have hdo:Al b ⟨5,ky,ch,tt,am,fe,ys⟩=({b with htlcs:=b.htlcs ++ [⟨ky,ch,tt,Ea b ⟨5,ky,ch,tt,am,fe,ys⟩,am,decide (ED b (AM b.chans ch) (AM b.chans tt) tt am ys=2),0⟩],chans:=AU (AU b.chans ch (AO 0 (-(Ea b ⟨5,ky,ch,tt,am,fe,ys⟩)))) tt (AO (-am) 0)},BL [⟨6,tt,-am⟩,⟨8,tt,am⟩]):=rfl
 first
 |clear C1P
  have hsum:Ea b ⟨5,ky,ch,tt,am,fe,ys⟩=am+fv:=by unfold Ea;rw [HFV.out,HD.out]
  rw [hdo,hsum,← HA.out,← HD.out,← HRV.out,HL.out];exact EI
 |have hsum:Ea b ⟨5,ky,ch,tt,am,fe,ys⟩=am+fv:=by unfold Ea;rw [HFV.out,HDd.out]
  rw [hdo,hsum,← HA.out,← HDd.out,← HRV.out,HL.out];exact EI):p:=h
theorem KA(h:p:=by
 rintro e w' ⟨rfl,rfl⟩;have hx:=hs.1;exact ⟨⟨_,rfl,RG⟩,rfl⟩):p:=h
theorem JP(h:p:=by
 go_upto_region 1 with fail
 refine cW fun w0 P0 B0 => ?_;have P0l:=P0.lt
 first
 |clear A3s
  by_cases h22:n=22;rotate_left
  ·have hres:Hid (DP xs=none):=Pi (by rw [HN.out];exact h22);obtain ⟨r0,r1,r2,r3,r4,r5,r6⟩:=P0.c7;obtain ⟨z0,z1,z2,z3,z4,z5,z6⟩:=P0.z7;go_wp2;exact TC
  subst h22;obtain ⟨a',n',c',e,-,-,F⟩:=id V;have B7w:=trivial;exact DL
 |clear C1Q
  have O1:ON Dp (w0.alloc (.cells #[] 163)) w0 (.slice (some ⟨w0,0,none⟩) 0 0) [] []:=ON.made2 (K:=Dp) w0 w0 (Nat.le_refl _);have b1:=bA w0 [] 163;go_upto_region 2 with fail
  generalize w0.alloc (.cells #[] 163)=w1 at O1 b1 ⊢;have P1:=P0.keep b1;have B1:=AD b1 B0;obtain ⟨p0,p1⟩:=P1.c2;cases hok:BO d
  ·have hr:=lH (W8 hok);have B7N:=trivial;exact qt
  have hr:=lH (Wj hok);obtain ⟨⟨hk1,hk2⟩,hk3,-,-⟩:=NC hok;rw [HN.out] at hk1 hk2;have HOK:=lH hok;clear hk3;exact qt
 |clear C1R
  obtain ⟨p0,p1⟩:=P0.c2;have V0:=V.keep B0;go_wp2_with fail
  refine (QT _ _ d _ V0).mono ?_;rintro e w1 ⟨rfl,b1⟩;have P1:=P0.keep b1;have V1:=V0.keep b1;have B1:=AD b1 B0;clear p0 p1 P0 B0 b1 V0;cases hok:BO d
  ·have hr:=lH (W8 hok);clear hok;(go_wp2_with fail);refine bodyPost_ret (by simp only [results,Tryz.results125];go_simp;rfl) rfl ?_;rw [hr.out];exact ⟨⟨_,[],rfl,ON.nil _ _⟩,B1⟩
  go_upto_region 4 with fail
  refine cW fun w2 Q1 b2 => ?_;have P2:=P1.keep b2;have V2:DkV w2 w1 (.slice a0 n cp0) (.slice a1 m cp1) d:=V1.keepB b2 (Nat.le_refl _);have B2:=AD b2 B1;obtain ⟨p0,p1⟩:=P2.c2;have z2:=b2.size;have z1:=B1.size;have CV:=tM _ _ d w1 w2 V2 hok (Q1.cell 0 _ rfl) (Q1.fz 0 zS);have HOK:=lH hok;clear P1 V1 b2 hok;go_wp2_with (go_at_call 223;refine CV.mono ?_;rintro e w3 ⟨rfl,out,us,c3,o3,F,x3,h3⟩)
  obtain ⟨ao,co,rfl,-,-⟩:=o3.form;have B3:Below w w w3:=B2.trans (x3.below (fun k hk=>by rcases h3 k hk with h | h<;>omega) oM);have hz:w1.heap.size<w3.heap.size:=Lib.lt_of_cell c3;clear CV P2 V2 B2 Q1 p0 p1 x3 h3;go_wp2;go_quiet (fail)
  go_wp2;refine bodyPost_ret (by simp only [results,Tryz.results125];go_simp;rfl) rfl ?_;first | exact ⟨⟨_,us,rfl,(o3.le oM).keep (C8 (Below.refl _ _))⟩,bW⟩ | exact ⟨⟨_,rfl,us,(o3.le oM).keep (C8 (Below.refl _ _))⟩,bW⟩
 |clear C1S
  have O1:M7 w0 w0 (.slice none 0 0) []:=AC.nil _ _;have b1:=Below.refl w0 w0;have P1:=P0.keep b1;have B1:=AD b1 B0;obtain ⟨p0,p1⟩:=P1.c2;go_wp2_with fail
  refine (Vx _ _ d _ (V.keep B1)).mono ?_;have A79:=trivial;exact ip
 |clear C1T
  have O1:M7 (w0.alloc (.cells #[] 73)) w0 (.slice (some ⟨w0,0,none⟩) 0 0) []:=AC.made (enc:=Ev.enc) (sz:=7) (E:=73) w0 w0 (Nat.le_refl _);have b1:=bA w0 [] 73;go_upto_region 2 with fail
  generalize w0.alloc (.cells #[] 73)=w1 at O1 b1 ⊢;have P1:=P0.keep b1;have B1:=AD b1 B0;obtain ⟨p0,p1⟩:=P1.c2;go_wp2_with fail
  refine (YV _ _ d _ (V.keep B1)).mono ?_;exact ip
 |have V0:=V.keep B0;go_upto_region 2 with fail
  first
  |clear A3u
   refine cW fun w1 Q1 b1 => ?_;exact pA
  |refine cW fun w1 Q0 b1 => ?_;have P1:=P0.keep b1;have V1:=V0.keepB b1 (Nat.le_refl _);have B1:=AD b1 B0;have C1U:=trivial;exact sN):p:=h
theorem KT(h:p:=by
 replace hT:=hT.keep hb;replace hs:=Nat.le_trans hs hb.size;clear hb hl
 first
 |clear A8z
  obtain ⟨a50,n50,k50,rfl⟩:=ho5.form
  first
  |clear C1V
   have o:=hT.o.cell 13 _ rfl;have q:=hT.o.fz 13 AF;(go_upto_region 7 with fail);clear o q;have hTx:T3 w (w5.setCell ⟨(w.heap.size+1+1),13,none⟩ (.slice a50 n50 k50)) _ _ _ _ _ _∧Ex [(w.heap.size+1+1)] w5 (w5.setCell ⟨(w.heap.size+1+1),13,none⟩ (.slice a50 n50 k50))∧(w5.setCell ⟨(w.heap.size+1+1),13,none⟩ (.slice a50 n50 k50)).heap.size=w5.heap.size:=hT.putO 13 [(.slice a50 n50 k50)] oM oM oM AF;generalize w5.setCell ⟨(w.heap.size+1+1),13,none⟩ (.slice a50 n50 k50)=X5 at hTx ⊢;have C1W:=trivial;exact lS
  |have o:=hT.o.cell 19 _ rfl;have q:=hT.o.fz 19 AF;(go_upto_region 8 with fail);clear o q;have hTx:T3 w (w5.setCell ⟨(w.heap.size+1+1),19,none⟩ (.slice a50 n50 k50)) _ _ _ _ _ _∧Ex [(w.heap.size+1+1)] w5 (w5.setCell ⟨(w.heap.size+1+1),19,none⟩ (.slice a50 n50 k50))∧(w5.setCell ⟨(w.heap.size+1+1),19,none⟩ (.slice a50 n50 k50)).heap.size=w5.heap.size:=hT.putO 19 [(.slice a50 n50 k50)] oM oM oM AF;generalize w5.setCell ⟨(w.heap.size+1+1),19,none⟩ (.slice a50 n50 k50)=X5 at hTx ⊢;exact lS
 |clear A9h
  obtain ⟨a40,n40,k40,rfl⟩:=ho4.form
  first
  |clear C1X
   have o:=hT.o.cell 12 _ rfl;have q:=hT.o.fz 12 AF;(go_upto_region 6 with fail);clear o q;have hTx:T3 w (w4.setCell ⟨(w.heap.size+1+1),12,none⟩ (.slice a40 n40 k40)) _ _ _ _ _ _∧Ex [(w.heap.size+1+1)] w4 (w4.setCell ⟨(w.heap.size+1+1),12,none⟩ (.slice a40 n40 k40))∧(w4.setCell ⟨(w.heap.size+1+1),12,none⟩ (.slice a40 n40 k40)).heap.size=w4.heap.size:=hT.putO 12 [(.slice a40 n40 k40)] oM oM oM AF;generalize w4.setCell ⟨(w.heap.size+1+1),12,none⟩ (.slice a40 n40 k40)=X4 at hTx ⊢;have C1Y:=trivial;exact mF
  |have o:=hT.o.cell 18 _ rfl;have q:=hT.o.fz 18 AF;(go_upto_region 7 with fail);clear o q;have hTx:T3 w (w4.setCell ⟨(w.heap.size+1+1),18,none⟩ (.slice a40 n40 k40)) _ _ _ _ _ _∧Ex [(w.heap.size+1+1)] w4 (w4.setCell ⟨(w.heap.size+1+1),18,none⟩ (.slice a40 n40 k40))∧(w4.setCell ⟨(w.heap.size+1+1),18,none⟩ (.slice a40 n40 k40)).heap.size=w4.heap.size:=hT.putO 18 [(.slice a40 n40 k40)] oM oM oM AF;generalize w4.setCell ⟨(w.heap.size+1+1),18,none⟩ (.slice a40 n40 k40)=X4 at hTx ⊢;exact mF
 |clear B0j
  obtain ⟨a10,n10,k10,rfl⟩:=ho1.form
  first
  |clear C1Z
   have o:=hT.o.cell 0 _ rfl;have q:=hT.o.fz 0 AF;(go_upto_region 3 with fail);clear o q;have hTx:T3 w (w1.setCell ⟨(w.heap.size+1+1),0,none⟩ (.slice a10 n10 k10)) _ _ _ _ _ _∧Ex [(w.heap.size+1+1)] w1 (w1.setCell ⟨(w.heap.size+1+1),0,none⟩ (.slice a10 n10 k10))∧(w1.setCell ⟨(w.heap.size+1+1),0,none⟩ (.slice a10 n10 k10)).heap.size=w1.heap.size:=hT.putO 0 [(.slice a10 n10 k10)] oM oM oM AF;generalize w1.setCell ⟨(w.heap.size+1+1),0,none⟩ (.slice a10 n10 k10)=X1 at hTx ⊢;have B8R:=trivial;exact T6
  |clear C1a
   have o:=hT.o.cell 3 _ rfl;have q:=hT.o.fz 3 AF;(go_upto_region 6 with fail);clear o q;have hTx:T3 w (w1.setCell ⟨(w.heap.size+1+1),3,none⟩ (.slice a10 n10 k10)) _ _ _ _ _ _∧Ex [(w.heap.size+1+1)] w1 (w1.setCell ⟨(w.heap.size+1+1),3,none⟩ (.slice a10 n10 k10))∧(w1.setCell ⟨(w.heap.size+1+1),3,none⟩ (.slice a10 n10 k10)).heap.size=w1.heap.size:=hT.putO 3 [(.slice a10 n10 k10)] oM oM oM AF;generalize w1.setCell ⟨(w.heap.size+1+1),3,none⟩ (.slice a10 n10 k10)=X1 at hTx ⊢;have B8T:=trivial;exact T6
  |have o:=hT.o.cell 1 _ rfl;have q:=hT.o.fz 1 AF;(go_upto_region 4 with fail);clear o q;have hTx:T3 w (w1.setCell ⟨(w.heap.size+1+1),1,none⟩ (.slice a10 n10 k10)) _ _ _ _ _ _∧Ex [(w.heap.size+1+1)] w1 (w1.setCell ⟨(w.heap.size+1+1),1,none⟩ (.slice a10 n10 k10))∧(w1.setCell ⟨(w.heap.size+1+1),1,none⟩ (.slice a10 n10 k10)).heap.size=w1.heap.size:=hT.putO 1 [(.slice a10 n10 k10)] oM oM oM AF;generalize w1.setCell ⟨(w.heap.size+1+1),1,none⟩ (.slice a10 n10 k10)=X1 at hTx ⊢;exact T6
 |clear B2a
  obtain ⟨a30,n30,k30,rfl⟩:=ho3.form
  first
  |clear B0Q
   first
   |clear C1b
    have o:=hT.o.cell 5 _ rfl;have q:=hT.o.fz 5 AF;(go_upto_region 8 with fail);clear o q;have hTx:T3 w (w3.setCell ⟨(w.heap.size+1+1),5,none⟩ (.slice a30 n30 k30)) _ _ _ _ _ _∧Ex [(w.heap.size+1+1)] w3 (w3.setCell ⟨(w.heap.size+1+1),5,none⟩ (.slice a30 n30 k30))∧(w3.setCell ⟨(w.heap.size+1+1),5,none⟩ (.slice a30 n30 k30)).heap.size=w3.heap.size:=hT.putO 5 [(.slice a30 n30 k30)] oM oM oM AF;generalize w3.setCell ⟨(w.heap.size+1+1),5,none⟩ (.slice a30 n30 k30)=X3 at hTx ⊢;have C1c:=trivial;exact nW
   |have o:=hT.o.cell 17 _ rfl;have q:=hT.o.fz 17 AF;(go_upto_region 6 with fail);clear o q;have hTx:T3 w (w3.setCell ⟨(w.heap.size+1+1),17,none⟩ (.slice a30 n30 k30)) _ _ _ _ _ _∧Ex [(w.heap.size+1+1)] w3 (w3.setCell ⟨(w.heap.size+1+1),17,none⟩ (.slice a30 n30 k30))∧(w3.setCell ⟨(w.heap.size+1+1),17,none⟩ (.slice a30 n30 k30)).heap.size=w3.heap.size:=hT.putO 17 [(.slice a30 n30 k30)] oM oM oM AF;generalize w3.setCell ⟨(w.heap.size+1+1),17,none⟩ (.slice a30 n30 k30)=X3 at hTx ⊢;exact nW
  |(go_upto_region 5 with ((show Go.wpList _ _ _ ((Go.Oper.mk _ (Go.Op.store 57 _ _) _ _ _ _) :: _) _ _);refine I7 hT oM oM oM Mi rfl _ _ rfl rfl rfl AF rfl rfl fun X3 hTx exx hZ => ?_));have C1d:=trivial;exact nY
 |clear B5A
  first
  |clear C1e
   obtain ⟨⟨⟨a10,n10,k10,rfl⟩,⟨a11,n11,k11,rfl⟩⟩,⟨⟨a12,n12,k12,rfl⟩,⟨a13,n13,k13,rfl⟩,⟨a14,n14,k14,rfl⟩⟩,⟨a15,n15,k15,rfl⟩,⟨a16,n16,k16,rfl⟩,⟨a17,n17,k17,rfl⟩⟩:=ho1.form;(go_upto_region 4 with ((show Go.wpList _ _ _ ((Go.Oper.mk _ (Go.Op.store 60 _ _) _ _ _ _) :: _) _ _);refine I7 hT oM oM oM Mb rfl _ _ rfl rfl rfl AF rfl rfl fun X1 hTx exx hZ => ?_));have B8P:=trivial;exact Oz
  |obtain ⟨⟨a10,n10,k10,rfl⟩,⟨a11,n11,k11,rfl⟩⟩:=ho1.form
   first
   |clear C1f
    (go_upto_region 3 with ((show Go.wpList _ _ _ ((Go.Oper.mk _ (Go.Op.store 47 _ _) _ _ _ _) :: _) _ _);refine I7 hT oM oM oM Ke rfl _ _ rfl rfl rfl AF rfl rfl fun X1 hTx exx hZ => ?_));have B8N:=trivial;exact Oz
   |(go_upto_region 3 with ((show Go.wpList _ _ _ ((Go.Oper.mk _ (Go.Op.store 49 _ _) _ _ _ _) :: _) _ _);refine I7 hT oM oM oM ND rfl _ _ rfl rfl rfl AF rfl rfl fun X1 hTx exx hZ => ?_));have B8O:=trivial;exact Oz
 |first
  |clear B0U
   obtain ⟨a20,n20,k20,rfl⟩:=ho2.form
   first
   |clear B8S
    have o:=hT.o.cell 1 _ rfl;have q:=hT.o.fz 1 AF;(go_upto_region 4 with fail);clear o q;have hTx:T3 w (w2.setCell ⟨(w.heap.size+1+1),1,none⟩ (.slice a20 n20 k20)) _ _ _ _ _ _∧Ex [(w.heap.size+1+1)] w2 (w2.setCell ⟨(w.heap.size+1+1),1,none⟩ (.slice a20 n20 k20))∧(w2.setCell ⟨(w.heap.size+1+1),1,none⟩ (.slice a20 n20 k20)).heap.size=w2.heap.size:=hT.putO 1 [(.slice a20 n20 k20)] oM oM oM AF;generalize w2.setCell ⟨(w.heap.size+1+1),1,none⟩ (.slice a20 n20 k20)=X2 at hTx ⊢;have C1g:=trivial;exact ow
   |have o:=hT.o.cell 4 _ rfl;have q:=hT.o.fz 4 AF;(go_upto_region 7 with fail);clear o q;have hTx:T3 w (w2.setCell ⟨(w.heap.size+1+1),4,none⟩ (.slice a20 n20 k20)) _ _ _ _ _ _∧Ex [(w.heap.size+1+1)] w2 (w2.setCell ⟨(w.heap.size+1+1),4,none⟩ (.slice a20 n20 k20))∧(w2.setCell ⟨(w.heap.size+1+1),4,none⟩ (.slice a20 n20 k20)).heap.size=w2.heap.size:=hT.putO 4 [(.slice a20 n20 k20)] oM oM oM AF;generalize w2.setCell ⟨(w.heap.size+1+1),4,none⟩ (.slice a20 n20 k20)=X2 at hTx ⊢;exact ow
  |first
   |clear B8Q
    obtain ⟨⟨a20,n20,k20,rfl⟩,⟨a21,n21,k21,rfl⟩⟩:=ho2.form;(go_upto_region 5 with ((show Go.wpList _ _ _ ((Go.Oper.mk _ (Go.Op.store 47 _ _) _ _ _ _) :: _) _ _);refine I7 hT oM oM oM Ke rfl _ _ rfl rfl rfl AF rfl rfl fun X2 hTx exx hZ => ?_));have C1h:=trivial;exact Tv
   |obtain ⟨⟨a20,n20,k20,rfl⟩,⟨a21,n21,k21,rfl⟩,⟨a22,n22,k22,rfl⟩⟩:=ho2.form;(go_upto_region 4 with ((show Go.wpList _ _ _ ((Go.Oper.mk _ (Go.Op.store 54 _ _) _ _ _ _) :: _) _ _);refine I7 hT oM oM oM Ip rfl _ _ rfl rfl rfl AF rfl rfl fun X2 hTx exx hZ => ?_));have C1i:=trivial;exact Tv):p:=h
theorem UM(h:p:=by
 go_wp2_with (go_at_call 224;refine CV.mono ?_;rintro e w6 ⟨rfl,b6⟩)
 refine bodyPost_ret A5a rfl ?_;exact ⟨rfl,_,us,FIN.out w6 (b5.trans (b6.mono z45)) hend⟩):p:=h
theorem KV(h:p:=by
 obtain ⟨Q,nQ⟩:=W9.box Q nQ;have H5:=H9;have WX:=WX.trans W9
 first
 |clear B1s
  clear H9 W9 hg x4 x3;have x1:=Q.cell 1 _ rfl;have x3:=Q.cell 3 _ rfl;obtain ⟨hg,LI⟩:=LsIn.add LI (x:=⟨6,q1,q3⟩) sM Cq uL sM;go_wp2_with fail
  first
  |clear B9f
   refine (DK _ _ g B _ _ 0 6 q1 (q3) _ H5 hg).mono ?_;have C1j:=trivial;exact Lu
  |refine (DJ _ _ g B _ _ 0 6 q1 (q3) _ H5 hg).mono ?_;have C1k:=trivial;exact Im
 |clear B1t
  clear H9 W9 hg x4;have x2:=Q.cell 2 _ rfl;have x3:=Q.cell 3 _ rfl;obtain ⟨hg,LI⟩:=LsIn.add LI (x:=⟨6,q2,q3⟩) sM Cq uL sM;go_wp2_with fail
  first
  |clear C1l
   refine (DK _ _ g B _ _ 0 6 q2 (q3) _ H5 hg).mono ?_;have C1m:=trivial;exact Lu
  |refine (DJ _ _ g B _ _ 0 6 q2 (q3) _ H5 hg).mono ?_;have C1n:=trivial;exact Im
 |clear B3Q
  clear H9 W9 hg x2 x4;go_wp2;go_end0
  refine ⟨rfl,_,?_,WX⟩
  first
  |clear C1o
   first
   |clear C1p
    exact Pa
   |exact Pb
  |first
   |clear C1q
    exact Pa
   |exact Pb
 |clear C1r
  first
  |clear A94
   clear H9 W9 hg c5;have c2:=PE.cell 2 _ rfl;have x2:=Q.cell 2 _ rfl;have hwr2:IntKind.i64.wrap (-A.loc) = -A.loc:=Ao;obtain ⟨hg,LI⟩:=LsIn.add LI (x:=⟨6,ch,-A.loc⟩) sM Cq uL sM;go_wp2_with fail
   first
   |clear C1s
    refine (DJ _ _ g B _ _ 0 6 ch (-A.loc) _ H5 hg).mono ?_;have C1t:=trivial;exact li
   |refine (DK _ _ g B _ _ 0 6 ch (-A.loc) _ H5 hg).mono ?_;exact li
  |clear B0q
   clear H9 W9 hg c5 x2;have c5:=PE.cell 5 _ rfl;obtain ⟨hg,LI⟩:=LsIn.add LI (x:=⟨5,0,fe⟩) sM Cq uL sM;go_wp2_with fail
   first
   |clear B4A
    refine (DJ _ _ g B _ _ 0 5 0 (fe) _ H5 hg).mono ?_;have C1s:=trivial;exact kU
   |refine (DK _ _ g B _ _ 0 5 0 (fe) _ H5 hg).mono ?_;exact kU
  |clear B01
   clear H9 W9 hg c2 x2;go_wp2;(go_end0);rw [Gb,Gy,Uv] at H5
   first
   |clear C1t
    ·have C1u:=trivial;exact sU
    all_goals simp
   |·exact sU
    all_goals simp
  |clear C1k
   clear H9 W9 hg x1 x3;have C1p:=trivial;exact jY
  |clear C1n
   clear H9 W9 hg x2 x3;have C1v:=trivial;exact i7
  |clear B9j
   clear H9 W9 hg x2 x4;exact jY
  |clear H9 W9 hg x1 x3 x4
   first
   |clear A8S
    go_wp2;(go_end0);refine ⟨rfl,_,?_,WX⟩;rw [show -q3 - q4 = -(q3+q4) by omega] at H5
    first
    |clear C1v
     exact Pa
    |exact Pb
   |exact i7
 |clear B8W
  first
  |clear C1j
   clear H9 W9 hg x1 x3;have C1q:=trivial;exact TA
  |clear C1m
   clear H9 W9 hg x2 x3;have C1w:=trivial;exact kG
  |clear B9k
   clear H9 W9 hg x2 x4;exact TA
  |clear H9 W9 hg x1
   first
   |clear A9o
    go_wp2;(go_end0);refine ⟨rfl,_,?_,WX⟩
    first
    |clear C1w
     exact Pa
    |exact Pb
   |exact kG
 |first
  |clear B0A
   clear H9 W9 x2 x4;have aok:=H5.oks;obtain ⟨y5,z5,l5,P5,-,-⟩:=H5.cells;have p3:=P5.cell 3 _ rfl;obtain ⟨w6,hw6⟩:∃ x,x=w9:=⟨_,rfl⟩;rw [← hw6] at p3 H5 Q WX P5 ⊢;clear hw6
   first
   |clear C1x
    have ai2:=Fw (ch:=q2) (f:=(AO 0 q4)) (LE (ch:=q1) (f:=(AO q3 0)) ai aid) Nz;have C1y:=trivial;exact rM
   |have ai2:=Fw (ch:=q2) (f:=(AO q4 0)) (LE (ch:=q1) (f:=(AO 0 q3)) ai aid) Nz;exact rM
  |clear B47
   clear H9 W9 x2 x3;have LI:=LsIn.nil
   first
   |clear C1z
    exact oV
   |have x1:=Q.cell 1 _ rfl;obtain ⟨hg,LI⟩:=LsIn.add LI (x:=⟨6,q1,q3+q4⟩) sM Cq uL sM;(go_wp2_with fail);refine (DK _ _ g B _ _ 0 6 q1 (q3+q4) _ H5 hg).mono ?_;exact Lu
  |clear B7Q
   clear H9 W9 x1 x3
   first
   |clear B0X
    (have dget2:AM (AU b.chans q1 (AO q3 0)) q2=d:=by rw [Ju (ch:=q1) (f:=(AO q3 0)) (fun _=>rfl) hi2,if_neg (fun e=>hne e.symm),dget]);have x2:=Q.cell 2 _ rfl;have x4:=Q.cell 4 _ rfl;(go_wp2_with fail);refine (Eu _ _ g B _ [] 0 q2 0 q4 _ H5 (by show AI (AU b.chans q1 _) q2=true;rw [Jw (ch:=q1) (f:=(AO q3 0)) (fun _=>rfl)];exact hi2) (D6 (fun _=>rfl) hso) FT FT).mono ?_;have C1x:=trivial;exact kZ
   |(have dget2:AM (AU b.chans q1 (AO 0 q3)) q2=d:=by rw [Ju (ch:=q1) (f:=(AO 0 q3)) (fun _=>rfl) hi2,if_neg (fun e=>hne e.symm),dget]);have x2:=Q.cell 2 _ rfl;have x4:=Q.cell 4 _ rfl;(go_wp2_with fail);refine (Eu _ _ g B _ [] 0 q2 q4 0 _ H5 (by show AI (AU b.chans q1 _) q2=true;rw [Jw (ch:=q1) (f:=(AO 0 q3)) (fun _=>rfl)];exact hi2) (D6 (fun _=>rfl) hso) FT FT).mono ?_;exact kZ
  |clear H9 W9 x1
   first
   |clear C10
    (have dget2:AM (AU b.chans q1 (AO 0 (q3+q4))) q2=d:=by rw [Ju (ch:=q1) (f:=(AO 0 (q3+q4))) (fun _=>rfl) hi2,if_neg (fun e=>hne e.symm),dget]);have x2:=Q.cell 2 _ rfl;have x3:=Q.cell 3 _ rfl;(go_wp2_with fail);refine (Eu _ _ g B _ [] 0 q2 q3 0 _ H5 (by show AI (AU b.chans q1 _) q2=true;rw [Jw (ch:=q1) (f:=(AO 0 (q3+q4))) (fun _=>rfl)];exact hi2) (D6 (fun _=>rfl) hso) FT FT).mono ?_;have C1z:=trivial;exact pS
   |(have dget2:AM (AU b.chans q1 (AO (q3+q4) 0)) q2=d:=by rw [Ju (ch:=q1) (f:=(AO (q3+q4) 0)) (fun _=>rfl) hi2,if_neg (fun e=>hne e.symm),dget]);have x2:=Q.cell 2 _ rfl;have x3:=Q.cell 3 _ rfl;(go_wp2_with fail);refine (Eu _ _ g B _ [] 0 q2 0 q3 _ H5 (by show AI (AU b.chans q1 _) q2=true;rw [Jw (ch:=q1) (f:=(AO (q3+q4) 0)) (fun _=>rfl)];exact hi2) (D6 (fun _=>rfl) hso) FT FT).mono ?_;exact pS):p:=h
theorem RD(h:p:=by
 go_enter Tryz.func302,Tryz.ntmps302
 go_wp2_with (first | (go_at_call 315;refine (Hd.out _).mono ?_;rintro e w1 ⟨rfl,rfl⟩) | ((first | (go_at_call 233;refine (BP _ _).mono ?_) | (go_at_call 315;refine (M4 _ _ _ _ oM oM oM).mono ?_) | (go_at_call 150;refine (J4 _ _ _).mono ?_));rintro e w1 ⟨rfl,rfl⟩))
 go_ret2
 first
 |clear B78
  exact ⟨LT,rfl⟩
 |exact ⟨cQ,rfl⟩):p:=h
theorem PW(h:p:=by
 go_wp2;go_ret;exact ⟨CD FI,bW⟩):p:=h
theorem Tt(h:p:=by
 have AT:=H5.at ai2 aid (D6 (fun _=>rfl) (D6 (fun _=>rfl) hso));have cA:_=some (Value.int IntKind.i64 (a.score)):=AT.1 6 _ rfl;have zA:=AT.2.1 (ia*7+6)
 first
 |clear B4E
  have FIN:=AT.2.2 6 (Co a.score) (fun c=>{c with score:=Co c.score}) dC FJ (MV (EG aok uI uI) (show AE (Co a.score) from YC N0));have B0z:=trivial;exact ld
 |clear B4F
  have FIN:=AT.2.2 6 (Ch a.score) (fun c=>{c with score:=Ch c.score}) dC FJ (MV (EG aok uI uI) (show AE (Ch a.score) from YM N0));exact ld
 |first
  |clear C1y
   have FIN:=AT.2.2 6 (Co a.score) (fun c=>{c with score:=Co c.score}) dC FJ (MV aok2 (show AE (Co a.score) from YC N0));have C11:=trivial;exact UO
  |have FIN:=AT.2.2 6 (Ch a.score) (fun c=>{c with score:=Ch c.score}) dC FJ (MV aok2 (show AE (Ch a.score) from YM N0));exact UO):p:=h
theorem PF(h:p:=by
 have Zc1:=Pc1.cell 7 _ rfl;have Fc1:=Pc1.fz 7 AF;obtain ⟨c1s0,c1s1,c1s2,c1s3,c1s4,c1s5⟩:=Pc1.c6
 first
 |clear B6G
  have c1ue2:=Ec10.cell 2 _ rfl;have c1ue3:=Ec10.cell 3 _ rfl;have c1ue4:=Ec10.cell 4 _ rfl;have c1k0:=(Hc1.at ai HAid.out hso).1 2 _ rfl;have c1k1:=(Hc1.at di HDid.out hso).1 3 _ rfl;have C0a:=trivial;exact Dm
 |clear B6E
  have c1ue4:=Ec10.cell 4 _ rfl;have c1ue6:=Ec10.cell 6 _ rfl;obtain ⟨c1ua0,c1ua1,c1ua2,c1ua3,c1ua4,c1ua5,c1ua6⟩:=Ec11.c7;obtain ⟨c1ud0,c1ud1,c1ud2,c1ud3,c1ud4,c1ud5,c1ud6⟩:=Ec12.c7;have C0c:=trivial;exact Dm
 |clear B9X
  have c1ue2:=Ec10.cell 2 _ rfl;have c1ue5:=Ec10.cell 5 _ rfl;have c1uc2:=Ec11.cell 2 _ rfl;have C0g:=trivial;exact qy
 |first
  |clear B6J
   have c1ue1:=Ec10.cell 1 _ rfl;have c1ue2:=Ec10.cell 2 _ rfl;have c1ue3:=Ec10.cell 3 _ rfl;have VK:=A0L hvk HKS.out;exact qy
  |have c1ue2:=Ec10.cell 2 _ rfl;have c1ue4:=Ec10.cell 4 _ rfl;have C0b:=trivial;exact Dm):p:=h
theorem Ik(h:p:=by
 go_wp2;go_ret;exact ⟨CD If,rfl⟩):p:=h
theorem Lk(h:p:=by
 obtain ⟨k,v,KK,hv,hk,rfl,rfl,ho,hun,hKK,hKl,hsel,hQ,hB⟩:=hrel;clear O1 Q1 P1 p4 B1;have hul:=hQ.lt
 first
 |clear B92
  by_cases hlt:k<m;rotate_left
  ·have B9g:=trivial;exact rr
  exact fI
 |clear B94
  by_cases hlt:k<q;rotate_left
  ·have B9b:=trivial;exact rm
  exact fS
 |clear A6Z
  by_cases hlt:k<m
  ·exact fI
  exact rr
 |by_cases hlt:k<q
  ·exact fS
  exact rm):p:=h
theorem Ls(h:p:=by
 have C12:=trivial;exact UO):p:=h
theorem Od(h:p:=by
 have hE2l:E2.length=EE.length+1:=Nk;rw [← hE2] at o8;obtain ⟨a8,c8,rfl⟩:=Bl.form o8
 first
 |clear C13
  have hB8:Below w0 w0 w8:=hB.trans (((Ae (Below.refl _ wr) _).mono hB.size).trans b8);have HE2:=lH hE2;clear hE2 g8 b8;rw [← HE2.out] at hend;go_wp2;go_ret;exact ⟨⟨_,rfl,by rw [hend.out];exact AC.le o8 oM⟩,AD hB8 B0⟩
 |clear B1E
  have hB8:Below w0 w0 w8:=hB6.trans (((Ae (Below.refl _ w6) _).mono hB6.size).trans b8);have P8:=(P6.alloc _).grownO2 g8 (fun e=>HBO.out _ db rfl);have X8:=(X6.alloc _).grownO2 g8 (fun e=>HBX.out _ db rfl);clear p0 p1 p2 x0 x1 x2;obtain ⟨p0,p1⟩:=P8.c2
  first
  |clear A7C
   obtain ⟨x0,x1,x2⟩:=X8.c3;have p2:=P8.cell 2 _ rfl;have hP8:=P8.lt;have HE2:=lH hE2;clear hE2 g8 b8;(go_wp2_with (at_builtin;refine Df DS Tryz.underlying55 rfl dC dC (fun _=>rfl) Dh rfl _ _ rfl w0 _ E2 rfl (AC.alloc o8 _) _ ⟨yk,yc,ya⟩ rfl (BC _ _ _ rfl) oM (Nat.le_trans hB8.size (Aj _ _)) ?_));intro v9 w9 o9 b9 g9;obtain ⟨E3,hE3⟩:∃ l,l=E2 ++ [(⟨yk,yc,ya⟩:Ln)]:=⟨_,rfl⟩;(have hE3l:E3.length=E2.length+1:=by rw [hE3,List.length_append];rfl);rw [← hE3] at o9;obtain ⟨a9,c9,rfl⟩:=Bl.form o9;have hB9:Below w0 w0 w9:=hB8.trans (((Ae (Below.refl _ w8) _).mono hB8.size).trans b9);have HE3:=lH hE3;clear hE3 g9 b9;rw [← HE2.out,← HE3.out] at hgo;go_wp2;go_roundw
   case rel=>exact ⟨k+1,true,E3,AA,Ab,rfl,o9,Lc,fun _=>hgo.out,Nq,hB9⟩
   case measure=>simp only [intOf];omega
  |obtain ⟨x0,x1⟩:=X8.c2;exact nk
 |clear B2M
  have hB8:Below w w w8:=hB.trans (((Ae (Below.refl _ _) _).mono hB.size).trans b8);have HE2:=lH hE2;clear hE2 g8 b8;rw [← HE2.out] at hgo
  first
  |clear A9u
   first
   |clear B6l
    clear LEY;go_wp2;go_roundw
    case rel=>exact ⟨(⟨xk,xc,xa⟩ :: a),b,E2,VA,Nr,o8,hgo,hgk,KJ,hba,hbb,hB8⟩
    case measure=>simp only [IB];omega
   |go_wp2;go_roundw
    case rel=>exact ⟨[],b,E2,VA,Nr,o8,hgo,hgk,KJ,hba,hbb,hB8⟩
    case measure=>simp only [IB];omega
  |clear C14
   first
   |clear B6y
    go_wp2;go_roundw
    case rel=>exact ⟨a,[],E2,Ns,VB,o8,hgo,hgk,KJ,hba,hbb,hB8⟩
    case measure=>simp only [IB];omega
   |clear LES;go_wp2;go_roundw
    case rel=>exact ⟨a,(⟨yk,yc,ya⟩ :: b),E2,Ns,VB,o8,hgo,hgk,KJ,hba,hbb,hB8⟩
    case measure=>simp only [IB];omega
  |clear a0 a1 a2 b0 b1 b2 hga2;(go_upto_region 8 with fail);(go_quiet (fail));have hB9:Below w w (w8.drewN nq):=C8 hB8;have o9:=AC.drewN o8 nq;generalize w8.drewN nq=w9 at hB9 o9 ⊢;go_wp2;go_roundw
   case rel=>exact ⟨a,b,E2,Ns,Nr,o9,hgo,hgk,KJ,hba,hbb,hB9⟩
   case measure=>simp only [IB];omega
 |first
  |clear A32
   have hB8:Below w0 w0 w8:=hB5.trans (((Ae (Below.refl _ w5) _).mono hB5.size).trans b8);exact nk
  |have hB8:Below w0 w0 w8:=hB6.trans (((Ae (Below.refl _ w6) _).mono hB6.size).trans b8);have HE2:=lH hE2;clear hE2 g8 b8;rw [← HE2.out] at hgo;go_wp2;go_roundw
   case rel=>exact ⟨k+1,false,E2,AA,Ab,rfl,o8,fun _=>hgo.out,Lc,Nq,hB8⟩
   case measure=>simp only [intOf];omega):p:=h
theorem JO(h:p:=by
 injection e with e
 injection e with e1 e2
 subst e1
 first
 |clear A3n
  subst e2;have:=hc 0 _ rfl
  rw [show 0+j*1+0=j by omega] at this;exact this
 |clear B7I
  subst e2
  first
  |clear A3J
   (have hc1:w.cell? ⟨g,off+i+j,none⟩=some (.int .u8 (x.toNat:Int)):=by rw [Nat.add_assoc];exact hc);have B5m:=trivial;exact po
  |exact po
 |clear B7t
  subst e2;exact ⟨g,off+lo,rfl,hb,fun j v hj=>by have:=hc j v hj;rw [show off+lo+i*1+j=off+(lo+i)*1+j by omega];exact this⟩
 |clear B7u
  subst e2;have h:=hc 0 _ rfl;have ha:(⟨g,off,none⟩:Addr).add j=⟨g,off+j,none⟩:=by unfold Addr.add;split<;>simp_all
  rw [ha];rw [Nat.mul_one,Nat.add_zero] at h;exact h
 |clear B7v
  subst e2;exact ⟨x,hc,by unfold DE;rw [hx.out];rfl⟩
 |clear B7x
  subst e2;exact ⟨g,off+sz,rfl,hb,fun j v hj=>by have:=hc j v hj;rw [show off+sz+i*sz+j=off+(i+1)*sz+j by rw [Nat.add_mul];omega];exact this⟩
 |subst e2;exact ⟨g,off+k*sz,ha oM,hb,fun j v hj=>by have:=hcell j v hj;rw [show off+k*sz+i*sz+j=off+(k+i)*sz+j by rw [Nat.add_mul];omega];exact this⟩):p:=h
theorem sU(h:p:=by
 refine ⟨rfl,_,_,_,_,H5,WX,?_⟩;try intro _
 have hdo:Al b ⟨3,ky,ch,tt,am,fe,ys⟩=({b with chans:=b.chans.filter (fun c => !decide (c.id=ch)),wallet:=b.wallet+(AM b.chans ch).loc - fe},BL [⟨1,0,(AM b.chans ch).loc - fe⟩,⟨5,0,fe⟩,⟨6,ch,-(AM b.chans ch).loc⟩]):=rfl
 first
 |clear C1u
  rw [hdo,← HA.out,HL.out,show b.wallet+A.loc - fe=b.wallet+(A.loc - fe) by omega];exact EI
 |rw [hdo,← HA.out,HL.out];exact EI):p:=h
theorem Sb(h:p:=by
 obtain ⟨y0,z0,l0,P0,V0,-⟩:=H5.cells;obtain ⟨ay,m,cy,rfl,-,-⟩:=VS.form V0.htlcs;obtain ⟨az,q,cz,rfl,-,-⟩:=VS.form V0.circles
 first
 |clear A6m
  have CA:=Hi (.slice (some ⟨gx,0,none⟩) n cx) (.slice ay m cy) (.slice az q cz) b tt;rw [HJ1.out] at CA;have hueL:=PE.lt;have B4j:=trivial;exact Oq
 |have CA:=Hi (.slice (some ⟨gx,0,none⟩) n cx) (.slice ay m cy) (.slice az q cz) b ch
  first
  |clear C15
   rw [HI1.out] at CA;have hueL:=PE.lt;exact Oq
  |have CB:=Hi (.slice (some ⟨gx,0,none⟩) n cx) (.slice ay m cy) (.slice az q cz) b tt;rw [HI1.out] at CA;rw [HJ1.out] at CB;have B4m:=trivial;exact Oq):p:=h
theorem my(h:p:=by
 refine wpAnyH_take (i:=20) (v := .pointer (some ⟨g,0,none⟩)) rfl kR kR kR (fun _ _ _ h=>h) (Or.inl ⟨BM,?_⟩) aS ?_
 ·exact Bi
 exact Bh):p:=h
theorem Ly(h:p:=by
 replace H0:=A7 H0 hb (bW);clear hc0 hf0 hs0 hz0;obtain ⟨hc0,hf0,hs0,hz0⟩:=AS H0
 first
 |clear B07
  have B5:Below w w w5:=AD hb (bW);clear hb;go_wp2;go_ret;exact ⟨rfl,bW⟩
 |clear B5n
  have B2:Below w w w2:=AD hb (bW);clear hb
  first
  |clear B0c
   have C16:=trivial;exact sV
  |clear B2U
   go_wp2_with fail
   first
   |clear C0N
    refine (yH _ _ b.circles _ (V.circles.keep (bW)) (V'.circles.keep (bW))).mono ?_;have C17:=trivial;exact Ts
   |clear C0O
    refine (A1u _ _ h.ledger _ (V.ledger.keep (bW)) (V'.ledger.keep (bW))).mono ?_;have C18:=trivial;exact Ts
   |refine (Mh _ _ W.took _ (V.took.keep (bW)) (V'.took.keep (bW))).mono ?_;exact Ts
  |exact L7
 |clear B6d
  have B4:Below w w w4:=AD hb (bW)
  first
  |clear C19
   clear hb;(go_wp2_with fail);refine (Mh _ _ h.sent _ (V.sent.keep (bW)) (V'.sent.keep (bW))).mono ?_;exact lu
  |clear hb;(go_wp2_with fail);refine (uH _ _ W.codes _ (V.codes.keep (bW)) (V'.codes.keep (bW))).mono ?_;exact lu
 |have B3:Below w w w3:=AD hb (bW);clear hb
  first
  |clear C2A
   have C2B:=trivial;exact UP
  |first
   |clear C17
    exact L7
   |clear C18
    (go_wp2_with fail);refine (Mh _ _ h.wait _ (V.wait.keep (bW)) (V'.wait.keep (bW))).mono ?_;have C19:=trivial;exact qS
   |(go_wp2_with fail);refine (Mh _ _ W.sent _ (V.sent.keep (bW)) (V'.sent.keep (bW))).mono ?_;exact qS):p:=h
theorem SW(h:p:=by
 obtain ⟨ax,n,cx,rfl,-,-⟩:=VS.form V.chans;have C2C:=trivial;exact Tm):p:=h
theorem Tw(h:p:=by
 have c1:=hc 1 _ rfl;rw [show off+k*Cc.sz+0=off+k*2 by show off+k*2+0=_;omega] at c0;rw [show off+k*Cc.sz+1=off+k*2+1 from rfl] at c1
 first
 |clear C04
  have d0:=hd 0 _ rfl;have d1:=hd 1 _ rfl;rw [show off'+k*Cc.sz+0=off'+k*2 by show off'+k*2+0=_;omega] at d0;rw [show off'+k*Cc.sz+1=off'+k*2+1 from rfl] at d1;clear hc hd hat;go_wp2_with fail
  go_region_held3 (fun w'=>w'.cell? ⟨g,off+k*2,none⟩=.some x.at_∧w'.cell? ⟨g,off+k*2+1,none⟩=some (.slice a1 n1 cp1)∧w'.cell? ⟨g',off'+k*2,none⟩=.some x.at_∧w'.cell? ⟨g',off'+k*2+1,none⟩=some (.slice a2 n2 cp2)) (go_keep) (first
   | (go_at_call 229;refine (A1r _ _ _ (x.bytes) _ (hu.keep (bW)) (hu'.keep (bW))).mono ?_;rintro e w2 ⟨rfl,hb2⟩;have hB2:=AD hb2 (bW:Below w w _);have c0x:=BN (AD hb2 (show Below wr wr _ from bW)) c0;have c1x:=BN (AD hb2 (show Below wr wr _ from bW)) c1;have d0x:=BN (AD hb2 (show Below wr wr _ from bW)) d0;have d1x:=BN (AD hb2 (show Below wr wr _ from bW)) d1))
  all_goals
   go_wp2
   go_roundw
   case rel=>exact ⟨k+1,AA,Ab,hB2⟩
   case measure=>simp [intOf];omega
 |clear B4c
  clear hc hat hown1;go_wp2_with fail
  refine (tX _ _ x.bytes _ (hu.keep (bW)) (hbd.out x (List.mem_of_getElem? hx.out))).mono ?_;exact lN
 |clear hc hat;go_wp2_with fail
  refine (uu _ _ (x.bytes) _ _ (hu.keep (bW)) hz.1 oM).mono ?_;exact oz):p:=h
theorem UK(h:p:=by
 go_wp2;refine bodyPost_ret dY rfl ?_;first | exact ⟨⟨_,us,dZ,da⟩,bW⟩ | exact ⟨⟨_,dZ,us,da⟩,bW⟩):p:=h
theorem sW(h:p:=by
 have C2D:=trivial;exact UQ):p:=h
theorem C2E(h:p:=by
 unfold Hid;rw [XS,HN.out]
 cases h1:decide (0≤sq∧sq≤599) with
 | false=>rfl
 | true =>
  cases h2:decide (1≤ep∧ep≤16000000) with
  | false=>rfl
  | true=>exact decide_eq_false (fun h3=>h ⟨of_decide_eq_true h1,of_decide_eq_true h2,h3⟩)):p:=h
theorem IY(h:p:=by
 go_wp2;go_ret;exact EI):p:=h
theorem Lz(h:p:=by
 intro v8 w8 o8 g8 f8;rw [← HE2.out] at o8;exact Oe):p:=h
theorem Lm(h:p:=by
 go_simp;exact GO):p:=h
theorem Tu(h:p:=by
 refine cW fun w5 P5 b5 => ?_;have ho5:Ds w5 w0 (.slice ao KK.length co) KK:=AC.keep ho b5;have hB5:=AD b5 hB
 first
 |clear C2F
  have C2G:=trivial;exact sX
 |clear B4W
  have hBw5:=AD b5 hBw;have PX5:=PX.keep b5;have V5:=V0.keep hB5
  first
  |clear C2H
   have CV:=WW _ _ _ b x.inn x.out w w5 PX5 V5;clear c0 c1 c2 c3 c4 c5 c6 ho hB hBw b5 PX;obtain ⟨x0,x1,x2,x3,x4,x5,x6⟩:=P5.c7;(go_wp2_with fail);refine (Az x.ain _).mono ?_;rintro e w1 ⟨rfl,rfl⟩;cases hT0:AH x.ain
   ·have hno:Hid (CW b=false):=by
     unfold Hid;exact Fi (GF hx.out (Fv (by have:=Gf hT0;omega)))
    exact L9
   have HhT0:=lH hT0;clear hT0;by_cases hp1:x.aout<1
   ·have hno:Hid (CW b=false):=by
     exact sY
    have e1:decide (x.aout<1)=true:=decide_eq_true hp1;exact BH
   have e1:decide (x.aout<1)=false:=decide_eq_false hp1;have Hhp1:=lH hp1;by_cases hp2:x.ain<x.aout
   ·have hno:Hid (CW b=false):=by
     exact sY
    have e2:decide (x.ain<x.aout)=true:=decide_eq_true hp2;exact BH
   have e2:decide (x.ain<x.aout)=false:=decide_eq_false hp2;have Hhp2:=lH hp2;(go_wp2_with fail);refine (Az x.age _).mono ?_;rintro e w1 ⟨rfl,rfl⟩;cases hT3:AH x.age
   ·have hno:Hid (CW b=false):=by
     unfold Hid;exact Fi (GF hx.out (Fv (by have:=Gf hT3;omega)))
    exact Tz
   have HhT3:=lH hT3;clear hT3;cases hT4:Cp b.chans x.inn x.out
   ·have hno:Hid (CW b=false):=by
     unfold Hid;exact Fi (GF hx.out (Fv (by rw [hT4];simp)))
    rw [hT4] at CV;clear hT4;exact sZ
   have HhT4:=lH hT4;rw [hT4] at CV;clear hT4;(go_upto_region 10 with (go_at_call 300;refine CV.mono ?_;rintro e w6 ⟨rfl,b6⟩));have B6I:=trivial;exact qM
  |have CV:=WW _ _ _ b x.frm x.tw w w5 PX5 V5;clear c0 c1 c2 c3 c4 ho hB hBw b5 PX;obtain ⟨x0,x1,x2,x3,x4⟩:=P5.c5;(go_wp2_with fail);refine (Az x.amt _).mono ?_;rintro e w1 ⟨rfl,rfl⟩;cases hT0:AH x.amt
   ·have hno:Hid (CW b=false):=by
     unfold Hid;exact Fi (IC hx.out (Hv (by have:=Gf hT0;omega)))
    exact L9
   have HhT0:=lH hT0;clear hT0;by_cases hp1:x.amt<1
   ·have hno:Hid (CW b=false):=by
     unfold Hid;exact Fi (IC hx.out (Hv oM))
    have e1:decide (x.amt<1)=true:=decide_eq_true hp1;exact BH
   have e1:decide (x.amt<1)=false:=decide_eq_false hp1;have Hhp1:=lH hp1;(go_wp2_with fail);refine (Az x.fee _).mono ?_;rintro e w1 ⟨rfl,rfl⟩;cases hT2:AH x.fee
   ·have hno:Hid (CW b=false):=by
     unfold Hid;exact Fi (IC hx.out (Hv (by have:=Gf hT2;omega)))
    exact Ty
   have HhT2:=lH hT2;clear hT2;cases hT3:Cp b.chans x.frm x.tw
   ·have hno:Hid (CW b=false):=by
     unfold Hid;exact Fi (IC hx.out (Hv (by rw [hT3];simp)))
    rw [hT3] at CV;clear hT3;exact sZ
   have HhT3:=lH hT3;rw [hT3] at CV;clear hT3;(go_upto_region 17 with (go_at_call 300;refine CV.mono ?_;rintro e w6 ⟨rfl,b6⟩));exact qM
 |have hKK2:Hid (b.htlcs.map (·.key) ++ (b.circles.take (k+1)).map (·.key)=KK ++ [x.key]):=dG;clear c0 c1 c2 c3 c4 ho hB hBw b5 hx ht;obtain ⟨x0,x1,x2,x3,x4⟩:=P5.c5;exact jH):p:=h
theorem Zd(h:p:=by
 go_wp2;go_loopw [3,4,5,8] (fun t _ _ i wr=>∃ k:Nat,k≤len∧i=k∧t=(Br (xs.take k))∧Hid (Cg (xs.take k)=true)∧Below w w wr) (fun _ _ _ i _=>len - (intOf i).toNat)
 case atStart=>exact ⟨0,Nat.zero_le _,rfl,rfl,rfl,Below.refl _ _⟩
 first
 |clear A21
  case round =>
   have A7q:=trivial;exact iM
 |case round =>
   exact iM):p:=h
theorem L7(h:p:=by
 go_wp2;go_ret;exact ⟨rfl,bW⟩):p:=h
theorem UP(h:p:=by
 rcases hr with rfl | ⟨r3a,r3b,q3⟩
 ·exact Gw
 go_wp2_with fail
 first
 |clear C2I
  refine (NM _ W.sent _ _ (V.sent.keep (bW)) r3a oM).mono ?_;have B9Q:=trivial;exact rj
 |clear C2B
  refine (NM _ h.wait _ _ (V.wait.keep (bW)) r3a oM).mono ?_;exact rj
 |go_ret;exact ⟨⟨_,rfl, .inr ⟨AA,AA,q1,q2,q3⟩⟩,bW⟩):p:=h
theorem Lr(h:p:=by
 have f0g:=fun g:Grew W1=>g.cell f0;have f1g:=fun g:Grew W1=>g.cell f1;have f2g:=fun g:Grew W1=>g.cell f2
 first
 |clear B0N
  exact oQ
 |clear B0O
  exact oR
 |have d0g:=fun g:Grew W1=>g.cell d0;have d1g:=fun g:Grew W1=>g.cell d1
  first
  |clear A9i
   have B7k:=trivial;exact oQ
  |have B7m:=trivial;exact oR):p:=h
theorem RW(h:p:=by
 go_upto_region 2 with fail
 have C2J:=trivial;exact RZ):p:=h
theorem mo(h:p:=by
 have INR:=fun w=>Cy amt (-1125899906842624) 1125899906842624 w;simp only [show Ad amt (-1125899906842624) 1125899906842624=false from hM] at INR;have Hf:=lH (Iz (l:=xs) ht.out cR)
 first
 |clear C2K
  exact Su
 |exact Sz):p:=h
theorem sb(h:p:=by
 have e1:((n:Int) == 0)=false:=An
 have hr:Hid (Fj d=false):=by
  unfold Hid Fj;rw [decide_eq_false (fun h=>h1 (by rw [h] at hn;simpa using hn.symm))];rfl
 clear h1 hn hm hnm hmm hn1 hm1
 first
 |clear C2L
  go_enter Tryz.func53,Tryz.ntmps53
  exact PK
 |go_enter Tryz.func44,Tryz.ntmps44
  exact PK):p:=h
theorem qC(h:p:=by
 by_cases hn20:n≤20;rotate_left
 ·exact B9F
 skip
 first
 |clear B53
  go_wp2_with fail
  refine (A12 _ _ _ b w0 V0).mono ?_;rintro e w1 ⟨rfl,b1⟩;have P1:=P0.keep b1;have B1:=AD b1 B0;clear p0 p1 p2 p3 p4 p5;cases hT3:CW b
  ·have hno:Hid (Ak b=false):=by
    unfold Hid Ak;rw [hT3];simp
   exact Tz
  have HhT3:=lH hT3;clear hT3;have hpok:CW b=true:=HhT3.out;have hPk:=(Pg b).1 hpok
  have hbook:Hid (Ak b=Fy b b.chans):=by
   unfold Hid Ak;rw [HhT0.out,HhT1.out,show Ad b.next 1 1125899906842624=true from decide_eq_true (of_decide_eq_true HhT2.out),HN.out,decide_eq_true hn20,hpok];simp
  clear hpok;have p3:=P1.cell 3 _ rfl;go_wp2;go_loopw [3,4,5,6,37] (fun _ _ _ _ i wr=>∃ k:Nat,k≤n∧i=k∧Hid ((b.chans.take k).all (Er b)=true)∧Hid (Cv (b.chans.take k))∧Below w0 w0 wr) (fun _ _ _ _ i _=>n - (intOf i).toNat)
  case atStart=>exact ⟨0,Nat.zero_le _,rfl,rfl,List.Pairwise.nil,b1⟩
  case round =>
   have C0C:=trivial;exact iU
 |by_cases hm60:m≤60;rotate_left
  ·have hno:Hid (Ak b=false):=by
    unfold Hid;exact Ps (by rw [JJ,HM.out,decide_eq_false hm60];simp)
   exact BH
  skip
  by_cases hq20:q≤20;rotate_left
  ·have hno:Hid (Ak b=false):=by
    unfold Hid;exact Ps (by rw [JJ,HQ.out,decide_eq_false hq20];simp)
   exact BH
  skip
  go_wp2_with fail
  refine (vJ _ _ _ b w0 V0 EL KG).mono ?_;rintro e w1 ⟨rfl,b1⟩;have P1:=P0.keep b1;have B1:=AD b1 B0;clear p0 p1 p2 p3 p4 p5;cases hT4:Bv b
  ·have hno:Hid (Ak b=false):=by
    unfold Hid;exact Ps (Fi hT4)
   clear hT4;exact BH
  have HhT4:=lH hT4;clear hT4;have hpok:CW b=true:=by rw [JJ,HM.out,HQ.out,decide_eq_true hm60,decide_eq_true hq20];exact HhT4.out
  have hPk:=(Pg b).1 hpok
  have hbook:Hid (Ak b=Fy b b.chans):=by
   unfold Hid Ak;rw [HhT0.out,HhT1.out,show Ad b.next 1 1125899906842624=true from decide_eq_true (⟨AA,AA⟩),HN.out,decide_eq_true hn20,hpok];simp
  clear hpok;have p3:=P1.cell 3 _ rfl;go_wp2;go_loopw [3,4,51] (fun _ _ i wr=>∃ k:Nat,k≤n∧i=k∧Hid ((b.chans.take k).all (Er b)=true)∧Hid (Cv (b.chans.take k))∧Below w0 w0 wr) (fun _ _ i _=>n - (intOf i).toNat)
  case atStart=>exact ⟨0,Nat.zero_le _,rfl,rfl,List.Pairwise.nil,b1⟩
  case round =>
   exact iU):p:=h
theorem UF(h:p:=by
 go_roundw
 case rel=>exact ⟨k+1,AA,Ab,AD hbg hB⟩
 case measure=>simp [intOf];omega):p:=h
theorem Si(h:p:=by
 obtain ⟨p0,p1,p2,p3,p4,p5⟩:=PB.c6;have C2M:=trivial;exact Ft):p:=h
theorem Pa(h:p:=by
 rw [Gb,Gy,Uv] at H5
 ·exact H5
 all_goals simp):p:=h
theorem PJ(h:p:=by
 go_wp2;go_ret;exact ⟨Ag A5A,AD hbg BW⟩):p:=h
theorem mq(h:p:=by
 have hMb:=of_decide_eq_true hM;exact mp):p:=h
theorem Ok(h:p:=by
 simp only [List.mem_append] at hk ⊢;rcases hk with ((hk | hk) | hk) | hk
 ·simp [hk]
 first
 |clear C2N
  ·exact Or.inr hk
  ·simp [hk]
  simp [hk]
 |clear B3D
  ·exact UR
  ·simp [hk]
  simp [hk]
 |·simp [hk]
  first
  |clear C2O
   ·exact Or.inr hk
   simp [hk]
  |·exact UR
   simp [hk]):p:=h
theorem PI(h:p:=by
 obtain ⟨F',H6,W6⟩:=hcut;obtain ⟨w8,hw8⟩:∃ x,x=wc:=⟨_,rfl⟩;subst hw8
 first
 |clear C2P
  clear H5 HR OR VR PP pw HOWN hBw hgr c1 c2 c3 c4 c5;have C2Q:=trivial;exact PM
 |clear C2R
  clear H5 HR OR VR PP pw HOWN hBw hgr c1 c2 c3 c4;exact PM
 |clear H5 HR OR VR PP zr pw HOWN hBw hgr;have C2S:=trivial;exact PM):p:=h
theorem S7(h:p:=by
 replace hBn:=hBn.trans ((bA.mono oM).trans (bX.mono oM));replace hzo:ob+1≤wX.heap.size:=eN;obtain ⟨acX,ccX,hv,-⟩:=AC.of (ok:=fun _=>True) CX (fun _ _=>trivial)
 first
 |clear A8Z
  obtain ⟨lcX,hlc⟩:∃ n,n=(cs ++ [0]).length:=⟨_,rfl⟩;rw [← hlc] at hv;subst hv;clear hlc;replace csn:=CX;clear CX bX gX bA csA;go_wp2;go_roundw
  first
  |clear C2T
   case rel=>exact ⟨k+1,⟨b2,ps,cs ++ [0]⟩,_,_,_,F6,us,AA,Ab,hnx,QS,On.le hwb,hF6,psn,csn,hBn⟩
   case measure=>simp only [intOf];omega
  |case rel=>exact ⟨k+1,⟨b2,ps ++ [⟨pi,pl⟩],cs ++ [0]⟩,_,_,_,F6,(us ++ [_]),AA,Ab,hnx,QS,On.le hwb,hF6,psn,csn,hBn⟩
   case measure=>simp only [intOf];omega
 |obtain ⟨lcX,hlc⟩:∃ n,n=(cs ++ [cd]).length:=⟨_,rfl⟩;rw [← hlc] at hv;subst hv;clear hlc;replace csn:=CX;clear CX bX gX bA csA
  first
  |clear B3k
   exact rf
  |by_cases h0:cd=0;rotate_left
   ·have B9h:=trivial;exact er
   exact ey):p:=h
theorem kk(h:p:=by
 intro v6 w6 O6 b6 g6;have B6:Below w w w6:=B5.trans (((Ae (Below.refl _ _) _).mono B5.size).trans (b6.mono B1.size));have O7:=AC.le (B':=w.heap.size) O6 B1.size
 first
 |clear B0H
  obtain ⟨R,hR⟩:∃ l,l=L4 ++ [(0:UInt8)]:=⟨_,rfl⟩;have hR2:Hid (R=Ep ⟨kd,ky,ch,tt,am,fe,false⟩):=dT;rw [← hR] at O7;obtain ⟨a7,c7,rfl,-⟩:=AK.form O7;clear hR O6 g6 b6 O5;go_wp2
  first
  |clear A6p
   exact sd
  |exact se
 |obtain ⟨R,hR⟩:∃ l,l=L4 ++ [(1:UInt8)]:=⟨_,rfl⟩;have hR2:Hid (R=Ep ⟨kd,ky,ch,tt,am,fe,true⟩):=dT;rw [← hR] at O7;obtain ⟨a7,c7,rfl,-⟩:=AK.form O7;clear hR O6 g6 b6 O5;go_wp2
  first
  |clear A6o
   exact sd
  |exact se):p:=h
theorem ek(h:p:=by
 obtain ⟨fv,hfv⟩:∃ v,v=EC D.base D.ppm am true:=⟨_,rfl⟩;obtain ⟨fb,hfb⟩:∃ v,v=Be D.base D.ppm am true:=⟨_,rfl⟩;have hfvb:=uP D.base D.ppm am true
 first
 |clear A6R
  have CF:=xZ D.base D.ppm am;simp only [← hfv,← hfb] at CF hfvb;have HFV:=lH hfv;have HFB:=lH hfb;clear hfv hfb;have C2U:=trivial;exact mL
 |have CF:=vO D.base D.ppm am;simp only [← hfv,← hfb] at CF hfvb;have HFV:=lH hfv;have HFB:=lH hfb;clear hfv hfb;obtain ⟨y4,z4,l4,P4,V4,-⟩:=H4.cells;obtain ⟨af,nf,cf,rfl,hnf,-⟩:=VS.form V4.htlcs;have pf:=P4.cell 4 _ rfl;exact qp):p:=h
theorem aC(h:p:=by
 obtain ⟨v0,H0⟩:∃ v,v=DB h0 key 1 1000000:=⟨_,rfl⟩;obtain ⟨v1,H1⟩:∃ v,v=DB h1 ch 1 99:=⟨_,rfl⟩;obtain ⟨v2,H2⟩:∃ v,v=DB h2 too 1 99:=⟨_,rfl⟩
 first
 |clear A3o
  obtain ⟨v3,H3⟩:∃ v,v=DB h3 amt 0 1125899906842624:=⟨_,rfl⟩;obtain ⟨v4,H4⟩:∃ v,v=DB h4 fee 0 1000000:=⟨_,rfl⟩
  have hr:Hid (Ah 4 key ch too amt fee yes=(v0 && v1 && v2 && !(h2 && decide (ch=too)) && v3 && v4 && (h5 || !yes))):=by
   unfold Hid Ah;rw [hh,decide_eq_true (show (1:Int)≤4∧(4:Int)≤11 by omega),Bool.true_and,if_pos rfl,if_pos rfl,H0,H1,H2,H3,H4]
  have A7n:=trivial;exact iH
 |obtain ⟨v3,H3⟩:∃ v,v=DB h3 amt 1 1125899906842624:=⟨_,rfl⟩;obtain ⟨v4,H4⟩:∃ v,v=DB h4 fee 0 1125899906842624:=⟨_,rfl⟩
  have hr:Hid (Ah k key ch too amt fee yes=(v0 && v1 && v2 && !(h2 && decide (ch=too)) && v3 && v4 && (h5 || !yes))):=by
   unfold Hid Ah;rw [hh,decide_eq_true ⟨g1,g2⟩,Bool.true_and,if_neg hk,if_neg hk,H0,H1,H2,H3,H4]
  exact iH):p:=h
theorem T4(h:p:=by
 go_wp2;exact rT):p:=h
theorem Pb(h:p:=by
 rw [Gb,Gy] at H5
 ·exact H5
 all_goals simp):p:=h
theorem Ol(h:p:=by
 obtain ⟨ao,co,rfl⟩:=Ds.form ho;have hBw:=AD hB B0;have PX:=P0.keep hB
 first
 |clear C2V
  by_cases hlt:k<m
  ·have C2W:=trivial;exact In
  have hallH:Hid (b.htlcs.all (Dy b.chans)=true):=dD;have B3E:=trivial;exact oE
 |clear C1K
  clear O1 b1;by_cases hlt:k<m
  ·have C2X:=trivial;exact In
  exact oE
 |clear ho2 hB2 hKl2 hKKH;by_cases hlt:k<q;rotate_left
  first
  |clear B3F
   ·have hKe:Hid (KK=A1 b):=dE;have hall2:Hid (b.circles.all (D0 b.chans)=true):=dF;have hund:Hid (Bv b=Fb KK):=by unfold Hid Bv;rw [hallH.out,hall2.out,hKe.out];rfl
    have hIok:∀ j∈KK,AE j:=fun j hj=>by
     rw [hKe.out] at hj;exact qB
    have VK:Cm wr wr (.slice ao KK.length co) KK:=AC.vs (fun _=>rfl) ho hIok;obtain ⟨w3,hw3⟩:∃ w3,w3=wr:=⟨_,rfl⟩;subst hw3;have C2Y:=trivial;exact sg
   have C2Z:=trivial;exact Pc
  |·have hKe:Hid (KK=A1 b):=dE;go_wp2;go_ret;exact ⟨⟨_,rfl,by rw [← hKe.out];exact AC.le ho (by have:=B0.size;omega)⟩,hBw⟩
   exact Pc):p:=h
theorem rA(h:p:=by
 have e1:(x.at_ == (i:Int))=true:=by simp [hat2]
 have hhit:Hid (DG d i=x.bytes):=by unfold Hid;rw [hrd.out,tp ht.out hat2]
 clear hat hc hu hx ht hat2
 first
 |clear B75
  go_wp2_with fail
  refine (QA _ x.bytes _ hU oM).mono ?_;have B9d:=trivial;exact UG
 |go_wp2_with (at_builtin;refine Da Dd Tryz.underlying161 rfl dC dC De Ed rfl _ _ rfl wq (.slice (some ⟨wq,0,none⟩) 0 0) [] rfl (World.ownsRow_made wq #[] 0 (Nat.le_refl _) FD rfl) _ x.bytes rfl (hU.keep (bW)) sM oM (Aj _ _) ?_)
  intro v1 w2 own hb2 hg2;have own:AK w2 wq v1 x.bytes:=own;have own':=AC.le (B':=w.heap.size) own hB.size;have b3:Below w w w2:=hB.trans (((Ae (Below.refl _ wq) _).trans hb2).mono hB.size);obtain ⟨va,vc,rfl,-⟩:=AK.form own';go_wp2;refine bodyPost_ret (by simp only [results,Tryz.results217];go_simp;rfl) rfl ?_;exact ⟨⟨_,rfl,by rw [hhit.out];exact own'⟩,b3⟩):p:=h
theorem nZ(h:p:=by
 go_wp2;go_loopw [5] (fun i wr=>∃ k:Nat,k≤len∧i=k∧Below w w wr) (fun i _=>len - (intOf i).toNat)
 case atStart=>exact ⟨0,Nat.zero_le _,rfl,Below.refl _ _⟩
 first
 |clear B20
  case round =>
   have C03:=trivial;exact IZ
 |case round =>
   exact IZ):p:=h
theorem pR(h:p:=by
 rw [hend.out];dsimp only;exact ⟨⟨F,_,rfl,((O.putF (fun hm=>SE)).putF (fun hm=>SE)).le oM⟩,Below.setCell (Below.setCell hBw Nw _) Nw _⟩):p:=h
theorem pU(h:p:=by
 have e1:decide (p.id≤l.last)=false:=decide_eq_false hle;obtain ⟨-,hL2,hL3⟩:=K5 HL.out;obtain ⟨⟨hi1,hi2⟩,⟨hP1,hP2⟩,hP3⟩:=Mu HP.out
 first
 |clear B49
  have CM:=Ur _ _ l.lines p.lines _ VLx VPx oM oM (fun y hy=>by have:=IF ((Ec hL3).1 y hy);omega) (fun y hy=>by have:=IF ((Ec hP3).1 y hy);omega);have HLE:=lH hle;have hml:=K8 l.lines p.lines;clear hL3 hP3 hle;have HZ5:=lH RX.lt;go_wp2_with fail
  refine CM.mono ?_;rintro e w6 ⟨hq,b6⟩;clear l0 l1 p0 p1;have LX:=LX.keep b6;have PX:=PX.keep b6;have RX:=RX.keep b6;have VLx:=VLx.keep b6;have VPx:=VPx.keep b6;have B6:=AD b6 B5;have hok:=zm HL.out HP.out;have MBD:=A1P HL.out HP.out;rcases hq with ⟨hm,v6,rfl,O6⟩ | ⟨hm,rfl⟩
  ·obtain ⟨MM,hMM⟩:∃ z,z=AN l.lines p.lines:=⟨_,rfl⟩;rw [← hMM] at O6 hml hok;obtain ⟨a6,c6,rfl⟩:=Bl.form O6;by_cases h320:MM.length≤320;rotate_left
   ·have e2:decide (320<MM.length)=true:=decide_eq_true oM
    have hres:Hid (BV l p=(3,Lg.zero)):=by
     unfold Hid BV;rw [HL.out,HP.out,Bool.true_and,if_neg sM,if_neg Lj,hm,← hMM,Bool.true_and,decide_eq_false h320,if_pos rfl]
    clear hm hMM CM hok hml MBD O6;exact lh
   have hres:Hid (BV l p=(0,⟨p.id,MM⟩)):=by
    unfold Hid BV;rw [HL.out,HP.out,Bool.true_and,if_neg sM,if_neg Lj,hm,← hMM,Bool.true_and,decide_eq_true h320,if_neg sM]
   have hmb:∀ x∈MM,Ln.ok x:=fun x hx=>by
    have h1:=hok x hx;have h2:=MBD;rw [← hMM] at h2;have h3:=h2 x hx;exact ⟨h1.1,h1.2,Nt⟩
   have e2:decide (320<MM.length)=false:=decide_eq_false oM;have HMB:=lH hmb;clear MBD;obtain ⟨l0,l1⟩:=LX.c2;obtain ⟨p0,p1⟩:=PX.c2;obtain ⟨r0,r1⟩:=RX.c2;obtain ⟨z0,z1⟩:=RX.z2;have hz5:rb<w5.heap.size:=HZ5.out;clear hm hMM CM hok hml hmb LX PX RX VLx VPx;go_wp2;refine bodyPost_ret dc rfl ?_;have hlb:=HLB.out;subst hlb;rw [hres.out];dsimp only;refine ⟨⟨_,_,rfl,_,RwO.mk' (AC.le (AC.putB (AC.putB O6 hz5) hz5) oM) HMB.out,rfl,GA _,KD⟩,bW⟩
  have hres:Hid (BV l p=(3,Lg.zero)):=by
   unfold Hid BV;rw [HL.out,HP.out,Bool.true_and,if_neg sM,if_neg Lj,hm,Bool.false_and,if_pos rfl]
  clear hm CM hok hml MBD;exact lh
 |have HLE:=lH hle;have hb0:∀ y∈l.lines,-1125899906842624≤y.amt∧y.amt≤1125899906842624:=fun y hy=>IF ((Ec hL3).1 y hy);have hbp:∀ y∈p.lines,-1125899906842624≤y.amt∧y.amt≤1125899906842624:=fun y hy=>IF ((Ec hP3).1 y hy);have hk0:=VLx.oks;have hkp:=VPx.oks;have hfo:=YN p.lines l.lines (Ec hL3).2.1 (Ec hP3).2.1;have hpo:=vC HL.out HP.out;have HB0:=lH hb0;have HBP:=lH hbp;have HK0:=lH hk0;have HKP:=lH hkp;have HFO:=lH hfo;have HPO:=lH hpo;have hPX:=PX.lt;have hLX:=LX.lt;have hRX:=RX.lt;clear hL3 hP3 hle hb0 hbp hk0 hkp hfo hpo;go_upto_region 5 with fail
  clear e1;go_cut [6] (fun v wq=>∃ (ob:Nat) (a:Option Addr) (c:Nat),v = .pointer (some ⟨ob,0,none⟩)∧Bx wq ob [p.id, .slice a l.lines.length c]∧Bl wq w5 (.slice a l.lines.length c) l.lines∧Ax wq ob 57∧w5.heap.size≤ob∧Below w5 w5 wq)
  case first =>
   go_region_law (first
    | (refine Dc DS Tryz.underlying55 rfl dC dC (fun _=>rfl) Dh rfl _ _ rfl w5 (.slice (some ⟨w5,0,none⟩) 0 0) [] rfl (AC.drew ((AC.made (enc:=Ln.enc) (sz:=3) (E:=178) w5 w5 (Nat.le_refl _)).alloc (.cells #[I0, .slice none 0 0] 57))) _ l.lines rfl (VLx.keep (bW)) sM oM JS ?_;intro v8 w8 o8 b8 g8;obtain ⟨a8,c8,rfl⟩:=Bl.form o8;(try simp only [List.nil_append] at o8);have b58:Below w5 w5 w8:=Below.trans (bW) b8;have PX8:=PX.keep b58;have p0:=PX8.cell 0 _ rfl;have hp8:=PX8.lt;have QB8:=Bx.grownO2 (Bx.drew (Bx.new (w5.alloc (.cells #[] 178)) #[I0, .slice none 0 0] 57 [I0, .slice none 0 0] rfl zS (w5.heap.size+1) sM)) g8 FF;have TB8:=Ax.grown (Ax.drew ((by simpa using Ax.new (w5.alloc (.cells #[] 178)) #[I0, .slice none 0 0] 57:Ax _ (w5.heap.size+1) _))) g8 FF;have q0:=QB8.cell 0 _ rfl;have q1:=QB8.cell 1 _ rfl;have y0:=QB8.fz 0 zS;have y1:=QB8.fz 1 EM)
    | (refine Dc DS Tryz.underlying55 rfl dC dC (fun _=>rfl) Dh rfl _ _ rfl w5 (.slice (some ⟨w5,0,none⟩) 0 0) [] rfl (AC.drew (AC.made (enc:=Ln.enc) (sz:=3) (E:=178) w5 w5 (Nat.le_refl _))) _ l.lines rfl (VLx.keep (bW)) sM oM JS ?_;intro v8 w8 o8 b8 g8;obtain ⟨a8,c8,rfl⟩:=Bl.form o8;(try simp only [List.nil_append] at o8);have b58:Below w5 w5 w8:=Below.trans (bW) b8;have PX8:=PX.keep b58;have p0:=PX8.cell 0 _ rfl;have hp8:=PX8.lt)
    | (refine Dc DS Tryz.underlying55 rfl dC dC (fun _=>rfl) Dh rfl _ _ rfl w5 (.slice (some ⟨w5.heap.size+1,0,none⟩) 0 0) [] rfl (AC.drew (by simpa using AC.made (enc:=Ln.enc) (sz:=3) (E:=178) (w5.alloc (.cells #[I0, .slice none 0 0] 57)) w5 (Aj _ _))) _ l.lines rfl (VLx.keep (bW)) sM oM JS ?_;intro v8 w8 o8 b8 g8;obtain ⟨a8,c8,rfl⟩:=Bl.form o8;(try simp only [List.nil_append] at o8);have b58:Below w5 w5 w8:=Below.trans (bW) b8;have PX8:=PX.keep b58;have p0:=PX8.cell 0 _ rfl;have hp8:=PX8.lt;have QB8:=Bx.grownO2 (Bx.drew ((Bx.new w5 #[I0, .slice none 0 0] 57 [I0, .slice none 0 0] rfl zS w5 rfl).alloc (.cells #[] 178))) g8 FF;have TB8:=Ax.grown (Ax.drew ((Ax.new w5 #[I0, .slice none 0 0] 57).keep (Ae (Below.refl _ _) (.cells #[] 178)))) g8 FF;have q0:=QB8.cell 0 _ rfl;have q1:=QB8.cell 1 _ rfl;have y0:=QB8.fz 0 zS;have y1:=QB8.fz 1 EM))
   all_goals
    go_wp2_with fail
    go_meet
    case rel=>first
     | exact ⟨w8,a8,c8,rfl,Bx.new _ _ _ [p.id, .slice a8 l.lines.length c8] rfl zS _ rfl,AC.alloc o8 _,Ax.new _ _ _,b58.size,bW⟩
     | exact ⟨w5.heap.size+1,a8,c8,rfl,(QB8.set1 0 p.id zS).set1 1 (.slice a8 l.lines.length c8) EM,AC.kept o8 (Ex.setCell (Ex.setCell (Ex.refl [w5.heap.size+1] w8) sM _) sM _) (fun k hk hm=>Nu),(TB8.set _ _ _).set _ _ _,AA,Below.setCell (Below.setCell b58 sM _) sM _⟩
     | exact ⟨w5,a8,c8,rfl,(QB8.set1 0 p.id zS).set1 1 (.slice a8 l.lines.length c8) EM,AC.kept o8 (Ex.setCell (Ex.setCell (Ex.refl [w5] w8) sM _) sM _) (fun k hk hm=>Nu),(TB8.set _ _ _).set _ _ _,AA,Below.setCell (Below.setCell b58 sM _) sM _⟩
  case rest =>
   obtain ⟨ob,oa,oc,rfl,QX,O9,TX,hob,b9⟩:=hcut;have PX:=PX.keep b9;have RX:=RX.keep b9;have VP9:=VPx.keepB b9 (Nat.le_refl _);have B9:=AD b9 B5;obtain ⟨bw,hbw⟩:∃ n,n=w5.heap.size:=⟨_,rfl⟩;rw [← hbw] at O9 hob b9 VP9 hPX hLX hRX;(have z9:bw≤wc.heap.size:=by rw [hbw];exact b9.size);(have hwb:w.heap.size≤bw:=by rw [hbw];exact B5.size);(have hnu8:nu≤8:=by have:=HNU.out;omega);have HBW:=lH hbw;clear LX VLx VPx hbw;have p1:=PX.cell 1 _ rfl;obtain ⟨w6,hw6⟩:∃ w6,w6=wc:=⟨_,rfl⟩;subst hw6;go_wp2;go_loopw [8,34] (fun _ i wr=>∃ (k:Nat) (EE:List Ln) (a:Option Addr) (c:Nat),k≤nu∧i=k∧Bx wr ob [p.id, .slice a EE.length c]∧Bl wr bw (.slice a EE.length c) EE∧Ax wr ob 57∧Hid (EE=(p.lines.take k).foldl At l.lines)∧EE.length≤320+k∧Hid (∀ y∈EE,(AE y.kind∧AE y.ch) ∧ -(1125899906842624*((k:Int)+1))≤y.amt∧y.amt≤1125899906842624*((k:Int)+1))∧Below bw w6 wr) (fun _ i _=>nu - (intOf i).toNat)
   case atStart=>exact ⟨0,l.lines,oa,oc,Nat.zero_le _,rfl,QX,O9,TX,rfl,AA,fun y hy=>⟨⟨(HK0.out y hy).1,(HK0.out y hy).2.1⟩,by have:=HB0.out y hy;omega⟩,Below.refl _ _⟩
   case round =>
    obtain ⟨k,EE,oa,oc,hk,rfl,QX,O9,TX,hEE,hEl,hEb,hB⟩:=hrel;have VP9:=VP9.keepB hB (Nat.le_refl _);have hobl:=QX.lt;have zB:=hB.size;by_cases hlt:k<nu
    ·obtain ⟨g,off,x,rfl,hg,-,⟨c0,c1,c2⟩,hx,ht⟩:=BE.at_ VP9 hlt;have hxk:=HKP.out x (List.mem_of_getElem? hx.out);have hxb:=HBP.out x (List.mem_of_getElem? hx.out);(have hnx:Hid ((p.lines.take (k+1)).foldl At l.lines=At EE x):=by unfold Hid;rw [ht.out,List.foldl_append,hEE.out];rfl);obtain ⟨xk,xc,xa⟩:=x;dsimp only at c0 c1 c2 hxb hxk;have hgw:g<wr.heap.size:=AA;have q1:=QX.cell 1 _ rfl;clear hx ht;(go_upto_region 9 with fail);refine cW fun w7 P5 b5 => ?_;have QX7:=QX.keep b5;have TX7:=TX.keep b5;have C2a:=trivial;exact sh
    (have hEE2:EE=AN l.lines p.lines:=by rw [hEE.out,List.take_of_length_le (by have:=HNU.out;omega)];exact HFO.out);exact sh):p:=h
theorem fd(h:p:=by
 have hres:Hid (Cz size few all sf sa amt good=if good=true then 2 else 0):=A5M;cases good
 all_goals
  go_wp2
  go_ret
  exact ⟨CD Ru,rfl⟩):p:=h
theorem Y5(h:p:=by
 clear hbit hX;go_wp2;go_loop [9,10] (fun q r=>∃ q2 r2:Nat,q=q2∧r=r2∧q2+r2≤9007199254740992∧Hid (q2*c+r2=dx a b k)) (fun _ r=>(intOf r).toNat)
 first
 |clear A2p
  case atStart=>exact ⟨2*q+b / c,2*r+b % c,Ab,Ab,AA,Hb⟩
  case round =>
   exact lK
 |case atStart=>exact ⟨2*q,2*r,Ab,Ab,AA,Hb⟩
  case round =>
   exact lK):p:=h
theorem qT(h:p:=by
 have GR:=FR.otherC g 1 (.int .i64 (b7.next+1)) hgr';have GP:=FP.otherC g 1 (.int .i64 (b7.next+1)) hgp';have GQ:=FQ.set1 1 (.int .i64 (b7.next+1)) AF
 first
 |clear B6f
  have GB:Below w w (World.setCell w9' ⟨g,1,none⟩ (Value.int IntKind.i64 (b7.next+1))):=Below.setCell FB hwg _;go_upto_region 34 with fail
  generalize World.setCell w9' ⟨g,1,none⟩ (Value.int IntKind.i64 (b7.next+1))=w8 at FN GU GR GP GQ GB ⊢;have H8:=FN.1;have U2:=GU;have RB:=GR;have RP:=GP;have BX:=GB;have q6:=GQ.cell 6 _ rfl;clear FN GU GR GP GB FH FU FQ FR FP FB q1 z1 GQ;exact gE
 |have GB:Below w w (World.setCell w8' ⟨g,1,none⟩ (Value.int IntKind.i64 (b7.next+1))):=Below.setCell FB hwg _;go_upto_region 44 with fail
  generalize World.setCell w8' ⟨g,1,none⟩ (Value.int IntKind.i64 (b7.next+1))=w8 at FN GU GR GP GQ GB ⊢;have H8:=FN.1;have U2:=GU;have RB:=GR;have RP:=GP;have BX:=GB;have q6:=GQ.cell 6 _ rfl;clear FN GU GR GP GB FH FR FP FQ FB q1 z1 GQ;obtain ⟨y8,z8,l8,PG,V8,-⟩:=H8.cells;have A8G:=trivial;exact gG):p:=h
theorem S8(h:p:=by
 have hK:decide (0<k)=true:=decide_eq_true oM;obtain ⟨j,hj⟩:∃ j:Nat,k=j+1:=⟨k - 1,AA⟩;have hw:IntKind.i64.wrap ((k:Int) - 1)=(j:Int):=Ao
 first
 |clear A8a
  have hjl:j<len:=AA;obtain ⟨g',off',pk,pc,pa,e',hg',d0,d1,d2,o0,o1,o2,hx',ht'⟩:=GE.cells (FS.keep hs hB) hjl;simp only [Option.some.injEq,Addr.mk.injEq,and_true] at e';obtain ⟨e1,e2⟩:=e';subst e1;subst e2;have hlast:=vm hx'.out;rw [← hj] at hlast;have Hj:=lH hj;have d0:=BN BX d0;have d1:=BN BX d1;clear o0 o1 o2 ht' hj;cases hL:EW pk pc kd ch
  first
  |clear A7s
   ·have B2I:=trivial;exact mm
   exact mm
  |·have LES:=fun w=>JH pk pc kd ch w;simp only [hL] at LES;have Hf:=lH (Iz (l:=xs) ht.out (by rw [hlast];simp [AV,hL]));exact S5
   have LES:=fun w=>JH pk pc kd ch w;simp only [hL] at LES;cases hM:CJ amt
   ·exact si
   exact rt
 |obtain ⟨g',off',x',e',hg',-,⟨d0,-⟩,hpx,-⟩:=Bz.at_ (V0.keep hB5).chans (show j<n by omega);simp only [Option.some.injEq,Addr.mk.injEq,and_true] at e';obtain ⟨e1,e2⟩:=e';subst e1;subst e2;obtain ⟨pid,q1,q2,q3,q4,q5,q6⟩:=x';dsimp only at d0;have hjn:j<n:=AA;have Hj:=lH hj;clear hj
  first
  |clear C0D
   cases hb0:Et ci
   ·exact rg
   exact rk
  |by_cases hc0:ci<1
   ·have e0:decide (ci<1)=true:=decide_eq_true hc0;exact iE
   have e0:decide (ci<1)=false:=decide_eq_false hc0;by_cases hc1:99<ci
   ·have e1:decide (99<ci)=true:=decide_eq_true hc1;exact iE
   have e1:decide (99<ci)=false:=decide_eq_false hc1;by_cases hord:ci≤pid
   ·have e2:decide (ci≤pid)=true:=decide_eq_true hord;have hno:Hid (Ak b=false):=LK (Vv hpx.out (by rw [← Hj.out];exact hx.out) hord);exact iR
   have e2:decide (ci≤pid)=false:=decide_eq_false hord;cases hb3:AH cl
   ·have hr3:¬ (0≤cl∧cl≤1125899906842624):=of_decide_eq_false hb3;have AL:=fun w=>BP cl w;simp only [show AH cl=false from hb3] at AL;exact kB
   have hr3:0≤cl∧cl≤1125899906842624:=of_decide_eq_true hb3;have AL:=fun w=>BP cl w;simp only [show AH cl=true from hb3] at AL;clear hb3;cases hb4:AH cr
   ·have hr4:¬ (0≤cr∧cr≤1125899906842624):=of_decide_eq_false hb4;have AR:=fun w=>BP cr w;simp only [show AH cr=false from hb4] at AR;exact kC
   have hr4:0≤cr∧cr≤1125899906842624:=of_decide_eq_true hb4;have AR:=fun w=>BP cr w;simp only [show AH cr=true from hb4] at AR;clear hb4;cases hb5:AH cb
   ·have hr5:¬ (0≤cb∧cb≤1125899906842624):=of_decide_eq_false hb5;have AB:=fun w=>BP cb w;simp only [show AH cb=false from hb5] at AB;clear hb5;exact Ss
   have hr5:0≤cb∧cb≤1125899906842624:=of_decide_eq_true hb5;have AB:=fun w=>BP cb w;simp only [show AH cb=true from hb5] at AB;clear hb5;by_cases hc6:cp<0
   ·have e6:decide (cp<0)=true:=decide_eq_true hc6;exact Ss
   have e6:decide (cp<0)=false:=decide_eq_false hc6;by_cases hc7:1000000<cp
   ·have e7:decide (1000000<cp)=true:=decide_eq_true hc7;exact Ss
   have e7:decide (1000000<cp)=false:=decide_eq_false hc7;cases hb8:BI cs
   ·have hr8:¬ (-100≤cs∧cs≤100):=of_decide_eq_false hb8;have SC:=fun w=>IT cs w;simp only [show BI cs=false from hb8] at SC;clear hb8;have C2b:=trivial;exact Gu
   have hr8 : -100≤cs∧cs≤100:=of_decide_eq_true hb8;have SC:=fun w=>IT cs w;simp only [show BI cs=true from hb8] at SC;clear hb8;exact iy):p:=h
theorem bh(h:p:=by
 refine (zo F x g B b [] 0 k0 ky ch tt am fe ys w H hh).mono ?_;exact JQ):p:=h
theorem rG(h:p:=by
 have hno:Hid (¬ h=Hb.zero):=fun e=>by rw [e] at hd;exact absurd hd dC
 exact UI):p:=h
theorem C2c(h:p:=by
 unfold Hid;rw [HQ0.out,HYd.out];exact Knuth.done NV Hd1.out (by rw [← HYd.out,← HQ0.out];exact Hd2.out) (Knuth.brk oM b2 hbr)):p:=h
theorem bi(h:p:=by
 refine (t9 F x g B b [] 0 k0 ky ch tt am fe ys w H hh).mono ?_;exact JQ):p:=h
theorem rQ(h:p:=by
 have c4:=PE.cell 4 _ rfl;have hwr1:IntKind.i64.wrap (-am) = -am:=Ao;obtain ⟨hg,LI⟩:=LsIn.add LI (x:=⟨1,0,-am⟩) sM Cq uL sM
 first
 |clear B8y
  go_wp2_with fail
  refine (DK _ _ g B _ _ 0 1 0 (-am) _ H5 hg).mono ?_;have C2d:=trivial;exact Lx
 |go_wp2_with fail
  refine (DJ _ _ g B _ _ 0 1 0 (-am) _ H5 hg).mono ?_;have C2e:=trivial;exact Lx):p:=h
theorem C2f(h:p:=by
 unfold Hid;rw [HQ1.out,HYd.out];exact Knuth.done NU Hd1.out (by rw [← HYd.out,← HQ1.out];exact Hd2.out) (Knuth.brk oM b2 hbr)):p:=h
theorem oW(h:p:=by
 have AT:=H5.at di2 did (D6 (fun _=>rfl) hso);have cA:_=some (Value.int IntKind.i64 (d.loc)):=AT.1 2 _ rfl;have zA:=AT.2.1 (jd*7+2)
 first
 |clear B4H
  have x3:=Q.cell 3 _ rfl;have hwr7:IntKind.i64.wrap (d.loc+q3)=d.loc+q3:=Ao;have FIN:=AT.2.2 2 (.int .i64 (d.loc+q3)) (AO q3 0) dC FJ (EG dok uI uI);have C2g:=trivial;exact Io
 |have x4:=Q.cell 4 _ rfl;have hwr4:IntKind.i64.wrap (d.loc+q4)=d.loc+q4:=Ao;have FIN:=AT.2.2 2 (.int .i64 (d.loc+q4)) (AO q4 0) dC FJ (EG dok uI uI);exact Io):p:=h
theorem oX(h:p:=by
 have AT:=H5.at di2 did (D6 (fun _=>rfl) hso);have cA:_=some (Value.int IntKind.i64 (d.rem)):=AT.1 3 _ rfl;have zA:=AT.2.1 (jd*7+3)
 first
 |clear B4I
  have x3:=Q.cell 3 _ rfl;have hwr10:IntKind.i64.wrap (d.rem+q3)=d.rem+q3:=Ao;have FIN:=AT.2.2 3 (.int .i64 (d.rem+q3)) (AO 0 q3) dC FJ (EG dok uI uI);have C2h:=trivial;exact Io
 |have x4:=Q.cell 4 _ rfl;have hwr2:IntKind.i64.wrap (d.rem+q4)=d.rem+q4:=Ao;have FIN:=AT.2.2 3 (.int .i64 (d.rem+q4)) (AO 0 q4) dC FJ (EG dok uI uI);have C2i:=trivial;exact Io):p:=h
theorem Zs(h:p:=by
 obtain ⟨ax,n,cx,rfl,hn,-⟩:=VS.form V.chans;obtain ⟨ay,m,cy,rfl,hm,-⟩:=VS.form V.htlcs;obtain ⟨az,s,cz,rfl,hq,-⟩:=VS.form V.circles
 first
 |clear A3S
  clear hn hm hq;obtain ⟨w0,hw0⟩:∃ w0,w0=w:=⟨_,rfl⟩;have B0:Below w w w0:=by rw [hw0];exact Below.refl _ _
  have V0:BkV w0 w0 (.slice ax n cx) (.slice ay m cy) (.slice az s cz) b:=by rw [hw0];exact V
  have P0:Bx w0 bb [b.tick,b.next,b.wallet, .slice ax n cx, .slice ay m cy, .slice az s cz]:=by rw [hw0];exact P0
  suffices hsuf:Calls Tryz.prog 300 #[p,q, .pointer (some ⟨bb,0,none⟩)] w0 fun e w'=>e = .returned (Cp b.chans p q)∧Below w w w' by rw [hw0] at hsuf;exact hsuf
  clear hw0;go_enter Tryz.func300,Tryz.ntmps300
  have B5l:=trivial;exact pn
 |have HN:=lH hn;have HM:=lH hm;have HQ:=lH hq;have hnB:=VS.lenB V.chans;have hmB:=VS.lenB V.htlcs;have hqB:=VS.lenB V.circles;clear hn hm hq;go_enter Tryz.func245,Tryz.ntmps245
  have C05:=trivial;exact GV):p:=h
theorem TH(h:p:=by
 obtain ⟨ax,n,cx,rfl,hn,-⟩:=VS.form V.chans;exact Sh):p:=h
theorem j0(h:p:=by
 have hk:=lH (of_decide_eq_true ((NK ky ch tt am fe ys).symm.trans hg));have C2j:=trivial;exact Ft):p:=h
theorem j2(h:p:=by
 have hk:=lH (of_decide_eq_true ((Mt ky ch tt am fe ys).symm.trans hg));have C2k:=trivial;exact Ft):p:=h
theorem j3(h:p:=by
 have hk:=lH (of_decide_eq_true ((NJ ky ch tt am fe ys).symm.trans hg));exact Ft):p:=h
theorem Yy(h:p:=by
 obtain ⟨a,n,c,e,h1,h2,h3,h4,h5,h6⟩:=h;refine ⟨a,n,c,e,h1,h2,h3,h4,h5,fun i x hx => ?_⟩;obtain ⟨b,off,u,e,hlt,hu,hc⟩:=h6 i x hx
 first
 |clear A2Z
  exact ⟨b,off,u,e,hlt,hu.keepB hb hB,fun j v hv=>(hb.cell (p:=⟨b,off+i*K.sz+j,none⟩) (Nat.lt_of_lt_of_le hlt hB)).trans (hc j v hv)⟩
 |exact ⟨b,off,u,e,Nat.lt_of_lt_of_le hlt hB,hu.mono hB,hc⟩):p:=h
theorem si(h:p:=by
 have INR:=fun w=>Ww amt w;simp only [show CJ amt=false from hM] at INR;have Hf:=lH (Iz (l:=xs) ht.out cR)
 first
 |clear C2l
  exact Sv
 |exact S5):p:=h
theorem sZ(h:p:=by
 go_wp2_with (go_at_call 300;refine CV.mono ?_;rintro e w6 ⟨rfl,b6⟩)
 go_ret;exact ⟨Ag If,AD b6 hBw5⟩):p:=h
theorem qW(h:p:=by
 go_quiet (fail)
 have hbg:Below wr wr (wr.drewN nq):=C8 (Below.refl _ _);generalize wr.drewN nq=wg at hbg ⊢
 first
 |clear B6m
  have B6h:=trivial;exact kX
 |have ho:=AC.keep ho hbg;have hB:=AD hbg hB;clear hbg;obtain ⟨wr,hwr⟩:∃ wr,wr=wg:=⟨_,rfl⟩;subst hwr;go_wp2;go_roundw
  case rel=>exact ⟨a,b,EE,Ns,Nr,ho,hgo,hgk,KJ,hba,hbb,hB⟩
  case measure=>simp only [IB];omega):p:=h
theorem sj(h:p:=by
 intro v9 w9 o9 g9 f9;rw [← HM.out] at o9;obtain ⟨a9,c9,rfl,-⟩:=AC.of (ok:=fun _=>True) o9 (fun _ _=>trivial)
 first
 |clear C2m
  have B9:Below wz wz w9:=Below.trans (bW) ((Ex.of_grown g9).below (fun k hk=>(Cj o8 k hk).1) B8.size)
  first
  |clear B7c
   exact Se
  |exact fl
 |have B9:Below wz wz w9:=Below.trans (bW) ((Ex.of_grown g9).below (fun k hk=>(Cj o8 k hk).1) (Nat.le_trans B8.size (Aj _ _)))
  first
  |clear B7b
   have C2n:=trivial;exact Se
  |exact fl):p:=h
theorem sk(h:p:=by
 obtain ⟨ar,nr,cr,hxe,p3,hnr,hncr,OR,VR,HR⟩:=H5.cn;exact JY):p:=h
theorem Rb(h:p:=by
 obtain ⟨y,z,l,P,V,-⟩:=H.cells;exact Tm):p:=h
theorem iN(h:p:=by
 have hK:decide (0<k)=false:=decide_eq_false oM;have hlast:(xs.take k).getLast? = none:=by rw [hk0];rfl
 have HL:=lH hlast
 first
 |clear A7r
  by_cases hZ:amt=0
  ·have C2o:=trivial;exact Oh
  have hZ':(amt == 0)=false:=Lh;cases hM:CJ amt
  ·have C2K:=trivial;exact mo
  have C2p:=trivial;exact mq
 |cases hM:CJ amt
  ·have C2l:=trivial;exact si
  have B9l:=trivial;exact rt):p:=h
theorem OM(h:p:=by
 go_wp2;go_ret;exact ⟨KO,BZ⟩):p:=h
theorem Oa(h:p:=by
 replace ho1:=ho1.kept exx (Eb ho1.lt oM);replace ho2:=ho2.kept exx (Eb ho2.lt oM);replace ho3:=ho3.kept exx (Eb ho3.lt oM)
 first
 |clear B4T
  clear hTx exx hZ
  first
  |clear C1d
   have p:=hT.p.cell 12 _ rfl;(go_wp2_with fail);refine (NQ _ h.wait X3 (V.wait.keep hT.b) hB.2.2.2.1).mono ?_;have C1X:=trivial;exact j9
  |first
   |clear C1c
    have hO:Bx X3 (w.heap.size+1+1) [b.tick,b.next,b.wallet,(.slice a10 n10 k10),(.slice a20 n20 k20),(.slice a30 n30 k30)]:=hT.o
    go_wp2_with (first
     | ((show Go.wpList _ _ _ ((Go.Oper.mk _ (Go.Op.load 54 _) _ _ _ _) :: _) _ _);refine Ce NE Ip rfl _ rfl _ _ rfl _ hO.rng rfl ?_)
     | ((show Go.wpList _ _ _ ((Go.Oper.mk _ (Go.Op.store 54 _ _) _ _ _ _) :: _) _ _);refine Jj hT oM oM oM Ip rfl _ _ rfl rfl rfl AF rfl rfl fun XF hTx exx hZ => ?_))
    have B8r:=trivial;exact UH
   |have p:=hT.p.cell 18 _ rfl;(go_wp2_with fail);refine (NQ _ W.sent X3 (V.sent.keep hT.b) hB.2.2.2.1).mono ?_;exact j9
 |replace ho4:=ho4.kept exx (Eb ho4.lt oM)
  first
  |clear B1e
   clear hTx exx hZ
   first
   |clear C1Y
    have p:=hT.p.cell 13 _ rfl;(go_wp2_with fail);refine (NQ _ h.sent X4 (V.sent.keep hT.b) hB.2.2.2.2).mono ?_;have C1V:=trivial;exact ji
   |have p:=hT.p.cell 19 _ rfl;(go_wp2_with fail);refine (uJ _ W.codes X4 (V.codes.keep hT.b) hB.2.2.2.2).mono ?_;exact ji
  |replace ho5:=ho5.kept exx (Eb ho5.lt oM);clear hTx exx hZ
   first
   |clear B0l
    first
    |clear C1W
     have hO:Bx X5 (w.heap.size+1+1) [(.slice a10 n10 k10),(.slice a11 n11 k11),h.log.next,h.log.epoch,h.book.tick,h.book.next,h.book.wallet,(.slice a20 n20 k20),(.slice a21 n21 k21),(.slice a22 n22 k22),h.ledger.last,(.slice a30 n30 k30),(.slice a40 n40 k40),(.slice a50 n50 k50)]:=hT.o
     go_wp2_with (first
      | ((show Go.wpList _ _ _ ((Go.Oper.mk _ (Go.Op.load 60 _) _ _ _ _) :: _) _ _);refine Ce Yc Mb rfl _ rfl _ _ rfl _ hO.rng rfl ?_)
      | ((show Go.wpList _ _ _ ((Go.Oper.mk _ (Go.Op.store 60 _ _) _ _ _ _) :: _) _ _);refine Jj hT oM oM oM Mb rfl _ _ rfl rfl rfl AF rfl rfl fun XF hTx exx hZ => ?_))
     clear hO;have C2q:=trivial;exact mC
    |have hO:Bx X5 (w.heap.size+1+1) [W.up,(.slice a10 n10 k10),(.slice a11 n11 k11),W.hub.log.next,W.hub.log.epoch,W.hub.book.tick,W.hub.book.next,W.hub.book.wallet,(.slice a12 n12 k12),(.slice a13 n13 k13),(.slice a14 n14 k14),W.hub.ledger.last,(.slice a15 n15 k15),(.slice a16 n16 k16),(.slice a17 n17 k17),(.slice a20 n20 k20),(.slice a21 n21 k21),(.slice a30 n30 k30),(.slice a40 n40 k40),(.slice a50 n50 k50)]:=hT.o
     go_wp2_with (first
      | ((show Go.wpList _ _ _ ((Go.Oper.mk _ (Go.Op.load 62 _) _ _ _ _) :: _) _ _);refine Ce Hh Fh rfl _ rfl _ _ rfl _ hO.rng rfl ?_)
      | ((show Go.wpList _ _ _ ((Go.Oper.mk _ (Go.Op.store 62 _ _) _ _ _ _) :: _) _ _);refine Jj hT oM oM oM Fh rfl _ _ rfl rfl rfl AF rfl rfl fun XF hTx exx hZ => ?_))
     clear hO;exact mC
   |first
    |clear C2q
     have hR:Bx XF (w.heap.size+1) [(.slice a10 n10 k10),(.slice a11 n11 k11),h.log.next,h.log.epoch,h.book.tick,h.book.next,h.book.wallet,(.slice a20 n20 k20),(.slice a21 n21 k21),(.slice a22 n22 k22),h.ledger.last,(.slice a30 n30 k30),(.slice a40 n40 k40),(.slice a50 n50 k50)]:=hT.r;have hL:=Iq Yc Mb hR rfl;refine bodyPost_ret (v := .agg #[(.slice a10 n10 k10),(.slice a11 n11 k11),h.log.next,h.log.epoch,h.book.tick,h.book.next,h.book.wallet,(.slice a20 n20 k20),(.slice a21 n21 k21),(.slice a22 n22 k22),h.ledger.last,(.slice a30 n30 k30),(.slice a40 n40 k40),(.slice a50 n50 k50)]) (by simp only [results,Tryz.results20];simp [Act.put,hL,asAddr]) rfl ?_;have C2r:=trivial;exact pH
    |have hR:Bx XF (w.heap.size+1) [W.up,(.slice a10 n10 k10),(.slice a11 n11 k11),W.hub.log.next,W.hub.log.epoch,W.hub.book.tick,W.hub.book.next,W.hub.book.wallet,(.slice a12 n12 k12),(.slice a13 n13 k13),(.slice a14 n14 k14),W.hub.ledger.last,(.slice a15 n15 k15),(.slice a16 n16 k16),(.slice a17 n17 k17),(.slice a20 n20 k20),(.slice a21 n21 k21),(.slice a30 n30 k30),(.slice a40 n40 k40),(.slice a50 n50 k50)]:=hT.r;have hL:=Iq Hh Fh hR rfl;refine bodyPost_ret (v := .agg #[W.up,(.slice a10 n10 k10),(.slice a11 n11 k11),W.hub.log.next,W.hub.log.epoch,W.hub.book.tick,W.hub.book.next,W.hub.book.wallet,(.slice a12 n12 k12),(.slice a13 n13 k13),(.slice a14 n14 k14),W.hub.ledger.last,(.slice a15 n15 k15),(.slice a16 n16 k16),(.slice a17 n17 k17),(.slice a20 n20 k20),(.slice a21 n21 k21),(.slice a30 n30 k30),(.slice a40 n40 k40),(.slice a50 n50 k50)]) (by simp only [results,Tryz.results11];simp [Act.put,hL,asAddr]) rfl ?_;exact pH):p:=h
theorem qi(h:p:=by
 go_wp2;go_ret;first | exact ⟨⟨_,rfl,by simp [hyes.out]⟩,hBw⟩ | exact ⟨Or.inr ⟨rfl,hyes.out⟩,hBw⟩):p:=h
theorem sm(h:p:=by
 generalize AG true 10 _=z at hz ⊢;have hz':∀ q c,AG q c z=z:=fun q c=>Jm q c z hz;simp only [hz']):p:=h
theorem C2s(h:p:=by
 rcases Nat.eq_zero_or_pos nl with h | h
 ·exact C0P
 exact h):p:=h
theorem rI(h:p:=by
 have e2:((m:Int) == 0)=false:=An;have hr2:Hid (Fj d=false):=by unfold Hid;rw [hr.out,decide_eq_false h2]
 clear h2 hr
 first
 |clear B8p
  go_enter Tryz.func53,Tryz.ntmps53
  exact ox
 |go_enter Tryz.func44,Tryz.ntmps44
  exact ox):p:=h
theorem m7(h:p:=by
 have a0g:=fun g:Grew wr=>g.cell a0;have a1g:=fun g:Grew wr=>g.cell a1;have a2g:=fun g:Grew wr=>g.cell a2
 first
 |clear B2b
  have b0g:=fun g:Grew wr=>g.cell b0;have b1g:=fun g:Grew wr=>g.cell b1;have b2g:=fun g:Grew wr=>g.cell b2;refine ET kR kR ?_
  first
  |clear B6o
   (repeat (go_big_quiet_step (first | (go_at_call 274;exact Calls.grew_of (LEY _)))));have B6j:=trivial;exact jA
  |(repeat (go_big_quiet_step (first | (go_at_call 274;exact Calls.grew_of (LES _)))));exact jA
 |have B7o:=trivial;exact iY):p:=h
theorem rC(h:p:=by
 go_upto_region 1 with fail
 rw [← hue];generalize w.alloc (.cells #[.int .i64 9,ky,ch,tt,am,fe,ys] 73)=w0 at PE b0 ⊢
 first
 |clear B8H
  have B5J:=trivial;exact je
 |have B5I:=trivial;exact iQ):p:=h
theorem rD(h:p:=by
 go_upto_region 1 with fail
 rw [← hue];generalize w.alloc (.cells #[.int .i64 5,ky,ch,tt,am,fe,ys] 73)=w0 at PE b0 ⊢
 first
 |clear B8J
  exact je
 |exact iQ):p:=h
theorem Y0(h:p:=by
 rcases Nat.eq_zero_or_pos (i - xs.length) with h0 | h0
 ·exact h0
 rw [List.getElem?_eq_none An] at h1;cases h1):p:=h
theorem sR(h:p:=by
 have hBw:=AD hB B0;have hbT:=Xn hP ch k;generalize hT:((b.htlcs.take k).map (BS ch)).sum=T at hbT ⊢
 first
 |clear C1D
  have hbU:=Pq hP ch k;generalize hU:((b.htlcs.take k).map (Bb ch)).sum=U at hbU ⊢;have hT:=lH hT;have hU:=lH hU;by_cases hlt:k<m
  ·have C2t:=trivial;exact In
  have p5:=(P0.keep hB).cell 5 _ rfl;have hTT:Hid ((b.htlcs.map (BS ch)).sum=T):=cm;have B9z:=trivial;exact sA
 |have hT:=lH hT;by_cases hlt:k<m
  ·exact In
  have p5:=(P0.keep hB).cell 5 _ rfl;have hTT:Hid ((b.htlcs.map (BS ch)).sum=T):=cm;obtain ⟨w1,hw1⟩:∃ w1,w1=wr:=⟨_,rfl⟩;subst hw1;go_wp2;go_loopw [5,9,29] (fun o _ i wr=>∃ k:Nat,k≤q∧i=k∧o = .int .i64 (T+((b.circles.take k).map (CY ch)).sum)∧Below w1 w1 wr) (fun o _ i _=>q - (intOf i).toNat)
  case atStart=>exact ⟨0,Nat.zero_le _,rfl,Fu sM,Below.refl _ _⟩
  case round =>
   obtain ⟨k,hk,rfl,rfl,hB2⟩:=hrel;exact rd):p:=h
theorem gO(h:p:=by
 obtain ⟨w6,hw6⟩:∃ x,x=w5:=⟨_,rfl⟩;rw [← hw6] at hB6 ho6 hQ6 P6 ⊢;clear hB5 ho5 hQ5 P5 e2 d0 hw6
 first
 |clear C2u
  have z6:=hQ6.cell;have B1K:=trivial;exact TY
 |exact lw):p:=h
theorem sn(h:p:=by
 have hnx:b7.next=b.next:=A5x;have hbn:=hb.next;have hbl:b.next<1125899906842624:=(Wz hb hgd HCD.out.symm).2
 first
 |clear C2v
  have happ:Aq b ⟨kd,ky,ch,tt,am,fe,ys⟩=(0,{b7 with next:=b7.next+1},⟨b7.next,ls7⟩):=eI;have hb7n:1≤b7.next∧b7.next<1125899906842624:=eJ;clear hnx;have q1:=PQ.cell 1 _ rfl;have hgl8:=PQ.lt;clear hnl;go_upto_region 42 with fail
  go_cut [12] (fun v wq=>∃ u,v = .pointer (some ⟨u,0,none⟩)∧w7.heap.size≤u∧Bx wq u [b7.next, .slice al nl cl]∧Below w7 w7 wq)
  case first =>
   refine wp_region_noPanic ?_;refine II (S:=fun w'=>w'.cell? ⟨g,1,none⟩=.some b7.next∧w'.cell? ⟨g,6,none⟩=some (.slice al nl cl)) (last:=11) kR ?_ (fun hHeld => ?_)
   ·exact Bc
   have B2E:=trivial;exact OE
  case rest =>
   exact A6L
 |have happ:Aq b ⟨kd,ky,ch,tt,am,fe,ys⟩=(0,{b7 with next:=b7.next+1},⟨b.next,ls7⟩):=eI;have hb7n:1≤b7.next∧b7.next<1125899906842624:=eJ;clear hnx;have p1:=PB.cell 1 _ rfl;obtain ⟨v0,v1⟩:=U2.c2;obtain ⟨x0,x1⟩:=U2.z2;clear hnl;go_upto_region 32 with fail
  go_cut [] (fun wq=>wq=((w8.setCell ⟨u2,0,none⟩ b.next).setCell ⟨u2,1,none⟩ (.slice al nl cl)).drew)
  case first =>
   refine wp_region_noPanic ?_;refine wp_region_held_drew (S:=fun w'=>w'.cell? ⟨ub,1,none⟩=.some b.next∧w'.cell? ⟨g,6,none⟩=some (.slice al nl cl)) kR ?_ (fun hHeld => ?_)
   ·exact Bc
   have B6M:=trivial;exact Sg
  case rest =>
   have FH:=((H8.other n2 0 b.next).other n2 1 (.slice al nl cl)).keep (Below.drew (Below.refl _ _));have FU:=((U2.set1 0 b.next AF).set1 1 (.slice al nl cl) AF).keep (Below.drew (Below.refl _ _));have FQ:=((PQ.otherC u2 0 b.next hg2).otherC u2 1 (.slice al nl cl) hg2).keep (Below.drew (Below.refl _ _));have FR:=((RB.otherC u2 0 b.next hr2).otherC u2 1 (.slice al nl cl) hr2).keep (Below.drew (Below.refl _ _));have FP:=((RP.otherC u2 0 b.next hp2).otherC u2 1 (.slice al nl cl) hp2).keep (Below.drew (Below.refl _ _));have FB:Below w w ((w8.setCell ⟨u2,0,none⟩ b.next).setCell ⟨u2,1,none⟩ (.slice al nl cl)).drew:=Below.drew (Below.setCell (Below.setCell BX h2w _) h2w _);obtain ⟨w9',hw9⟩:∃ x,x=wc:=⟨_,rfl⟩;subst hw9;rw [← hcut] at FH FU FQ FR FP FB;clear hcut H8 U2 PQ RB RP BX p1 v0 v1 x0 x1 q6 PB;have B6e:=trivial;exact od):p:=h
theorem US(h:p:=by
 go_wp2_with fail
 refine (Uh _ _ _ _ _ VD V10).mono ?_;rintro e w11 ⟨⟨q3,rfl,hq3⟩,bx⟩
 first
 |clear C2w
  have hfin:Hid (Bd h=q3):=Mv (dk:=0) H0.out H1.out H2.out H3.out HR.out (HQ1.out.1 GL) (HQ2.out.1 GL) HNE.out HNT.out hle oM oM hq3;exact sF
 |have hfin:Hid (Bd h=q3):=Mv H0.out H1.out H2.out H3.out HR.out (HQ1.out.1 GL) (HQ2.out.1 GL) HNE.out HNT.out hle hdt.out hdn hq3;exact sF):p:=h
theorem sp(h:p:=by
 have e11:decide (A.rem<am+fv)=true:=decide_eq_true h11;clear h11;have HCD:Hid (cd=11):=A6F
 first
 |clear C2x
  have B9w:=trivial;exact PO
 |exact PR):p:=h
theorem qJ(h:p:=by
 unfold Dv;have e1:z=114 - body.length:=by rw [HZ.out,HN.out]
 simp only [e1,HN.out,Int.toNat_natCast,GI]):p:=h
theorem Ka(h:p:=by
 have k2:(q:Int)≤4294967297:=AA;have k4:(r:Int)<4294967296:=AA;have k5:(d1:Int)<4294967296:=AA
 first
 |clear B8V
  have k6:(n0:Int)<4294967296:=AA
  first
  |clear B62
   exact mD
  |clear C2y
   exact ns
  |have k1:¬ ((4294967296:Int)≤q):=AA
   first
   |clear B5j
    have k8:¬ ((4294967296:Int)*r+n0<p):=AA;exact sC
   |have k8:(4294967296:Int)*r+n0<p:=AA;have k9:(p:Int)<18446744073709551616:=AA;have k7:(1:Int)≤q:=AA
    first
    |clear B64
     exact ol
    |exact qk
 |have k6:(n1:Int)<4294967296:=AA
  first
  |clear B65
   exact mD
  |clear C2z
   exact ns
  |have k1:¬ ((4294967296:Int)≤q):=AA
   first
   |clear B5i
    have k8:¬ ((4294967296:Int)*r+n1<p):=AA;exact sC
   |have k8:(4294967296:Int)*r+n1<p:=AA;have k9:(p:Int)<18446744073709551616:=AA;have k7:(1:Int)≤q:=AA
    first
    |clear B67
     exact ol
    |exact qk):p:=h
theorem Yo(h:p:=by
 rcases Nat.lt_or_ge b w.heap.size with hlt | hge
 ·exact hlt
 simp [World.cell?,Array.getElem?_eq_none hge] at h):p:=h
theorem sr(h:p:=by
 have e12:decide (D.loc<am)=true:=decide_eq_true h12;clear h12;have HCD:Hid (cd=12):=A6G
 first
 |clear C20
  have B9x:=trivial;exact PO
 |exact PR):p:=h
theorem UR(h:p:=by
 rcases hfr k hk with h | h
 ·simp [h]
 exact Or.inr h):p:=h
theorem cN(h:p:=by
 simp [Value.cells] at hcs;obtain ⟨rfl,rfl,rfl⟩:=hcs;exact ⟨[],rfl,FD,AP,fun i x h=>by simp at h⟩):p:=h
theorem sV(h:p:=by
 rcases hr with rfl | ⟨r2a,r2b,q2⟩
 ·exact Gw
 go_wp2_with fail
 first
 |clear C16
  first
  |clear C21
   go_ret;exact ⟨⟨_,rfl, .inr ⟨AA,AA,q1,q2⟩⟩,bW⟩
  |clear C22
   refine (A18 _ h.ledger _ _ (V.ledger.keep (bW)) r2a oM).mono ?_;rintro e w3 ⟨⟨r3,rfl,hr⟩,hb⟩;have C2A:=trivial;exact Ly
  |refine (NM _ W.took _ _ (V.took.keep (bW)) r2a oM).mono ?_;rintro e wx ⟨⟨r3,rfl,hr⟩,rfl⟩;have C2I:=trivial;exact UP
 |refine (ze _ b.circles _ _ (V.circles.keep (bW)) r2a oM).mono ?_;rintro e wx ⟨⟨r3,rfl,hr⟩,rfl⟩;exact UP):p:=h
theorem ri(h:p:=by
 rcases hr with rfl | ⟨r1a,r1b,q1⟩
 ·exact Gw
 go_wp2_with fail
 first
 |clear B9P
  first
  |clear A3C
   refine (A2S _ b.htlcs _ _ (V.htlcs.keep (bW)) r1a oM).mono ?_;rintro e wx ⟨⟨r2,rfl,hr⟩,rfl⟩;exact sV
  |go_ret;exact ⟨⟨_,rfl, .inr ⟨AA,AA,q1⟩⟩,bW⟩
 |first
  |clear A3A
   refine (A0r _ d.dirty _ _ (V.dirty.keep (bW)) r1a oM).mono ?_;have C21:=trivial;exact TN
  |clear A3B
   go_ret;exact ⟨⟨_,rfl, .inr ⟨AA,AA,q1⟩⟩,bW⟩
  |clear A3D
   refine (zk _ _ _ h.book _ _ (V.book.keep (bW)) r1a oM).mono ?_;have C22:=trivial;exact TN
  |refine (Xj _ _ W.disk _ _ (V.disk.keep (bW)) r1a oM).mono ?_;exact TN):p:=h
theorem Yp(h:p:=by
 rcases Nat.lt_or_ge g w.heap.size with hlt | hge
 ·exact hlt
 rw [Array.getElem?_eq_none hge] at hh;cases hh):p:=h
theorem rB(h:p:=by
 go_upto_region 1 with fail
 rw [← hue];generalize w.alloc (.cells #[k0,ky,ch,tt,am,fe,ys] 73)=w0 at PE b0 ⊢
 first
 |clear B8B
  exact kQ
 |exact kO):p:=h
theorem ss(h:p:=by
 have e11:decide (A.rem<am+fv)=false:=decide_eq_false h11;clear h11;by_cases h12:D.loc<am
 first
 |clear C23
  ·have C20:=trivial;exact sr
  have e12:decide (D.loc<am)=false:=decide_eq_false h12;clear h12;by_cases h13:rv=0;rotate_left
  ·have B86:=trivial;exact ra
  have B87:=trivial;exact rc
 |·exact sr
  have e12:decide (D.loc<am)=false:=decide_eq_false h12;clear h12;by_cases h13:rv=0
  ·exact rc
  exact ra):p:=h
theorem oV(h:p:=by
 have x4:=Q.cell 4 _ rfl;obtain ⟨hg,LI⟩:=LsIn.add LI (x:=⟨4,0,q4⟩) sM Cq uL sM;go_wp2_with fail
 first
 |clear B4C
  refine (DJ _ _ g B _ _ 0 4 0 (q4) _ H5 hg).mono ?_;exact MC
 |refine (DK _ _ g B _ _ 0 4 0 (q4) _ H5 hg).mono ?_;rintro e w9 ⟨rfl,F9,H9,W9⟩;have C1l:=trivial;exact mR):p:=h
theorem ag(h:p:=by
 go_upto_region 3 with fail
 exact RZ):p:=h
theorem lL(h:p:=by
 simp only [Option.some.injEq,Value.slice.injEq] at hpp;obtain ⟨rfl,rfl,rfl⟩:=hpp;have hlt:i<nr:=AA
 first
 |clear B0e
  obtain ⟨gr,off,x',rfl,hgr,-,⟨r0,r1,r2,r3,r4,r5,r6⟩,hx,-⟩:=DC.at_ VR hlt;have B57:=trivial;exact qE
 |obtain ⟨gr,off,x',rfl,hgr,-,⟨r0,r1,r2,r3,r4⟩,hx,-⟩:=DA.at_ VR hlt;exact qE):p:=h
theorem qL(h:p:=by
 have d0g:=fun g:Grew wr=>g.cell d0;have d1g:=fun g:Grew wr=>g.cell d1;have d2g:=fun g:Grew wr=>g.cell d2
 first
 |clear B6H
  have d3g:=fun g:Grew wr=>g.cell d3;have d4g:=fun g:Grew wr=>g.cell d4
  first
  |clear B98
   refine ET kR kR ?_;(repeat (quiet_step ((go_at_call 277;exact Calls.grew_of (xm _ _ _ _ _ _ _ _ _ _ _)))));exact El
  |have d5g:=fun g:Grew wr=>g.cell d5;have d6g:=fun g:Grew wr=>g.cell d6;refine ET kR kR ?_
   first
   |clear C24
    (repeat (quiet_step ((go_at_call 110;exact Calls.grew_of (A1b _ _ _ _ _ _ _ _ _ _ _ _ _ _ _)))));exact TP
   |clear C25
    (repeat (quiet_step ((go_at_call 275;exact Calls.grew_of (A14 _ _ _ _ _ _ _ _ _ _ _ _ _ _ _)))));exact TP
   |(repeat (quiet_step ((go_at_call 276;exact Calls.grew_of (xR _ _ _ _ _ _ _ _ _ _ _ _ _ _ _)))));exact TP
 |refine ET kR kR ?_;repeat (quiet_step ((go_at_call 278;exact Calls.grew_of (A1N _ _ _ _ _ _ _))))
  have B7i:=trivial;exact El):p:=h
theorem C26(h:p:=by
 rcases OR.2 with ⟨h,_⟩ | ⟨g',cap',cur,h,_⟩
 ·simp at h;omega
 simp at h;exact ⟨g',h.1⟩):p:=h
theorem jz(h:p:=by
 have hk:=of_decide_eq_true ((Mq ky ch tt am fe ys).symm.trans hg);have hk4:=hk.2.2.2.1;clear hk
 first
 |clear A9K
  have hov:=of_decide_eq_false ((ES ho).2.1 rfl);have hcode:=xC (b:=b) (e:=⟨1,ky,ch,tt,am,fe,ys⟩) ho rfl;have HC1:=lH hcode;clear hcode;dsimp only at hov;have e4:=PE.cell 4 _ rfl;obtain ⟨yp,zp,lp,PP,-,-⟩:=H.cells;have p2:=PP.cell 2 _ rfl;have zr:=PP.fz 2 AF;have hwr2:IntKind.i64.wrap (b.wallet+am)=b.wallet+am:=Ao;have FIN:=H.wallet (b.wallet+am) uI;have C27:=trivial;exact Ls
 |have hcode:=wO (b:=b) (e:=⟨1,ky,ch,tt,am,fe,ys⟩) hn rfl;dsimp only at hcode;have HC1:=lH hcode;clear hcode;have p2:=PB.cell 2 _ rfl;have e4:=PE.cell 4 _ rfl;go_wp2_with fail
  refine (J4 b.wallet am _).mono ?_;rintro e wA ⟨he,rfl⟩;by_cases hs:b.wallet+am≤1125899906842624;rotate_left
  ·rw [if_neg KL] at he;subst he;(have HC2:Hid (AQ b ⟨1,ky,ch,tt,am,fe,ys⟩=2):=by unfold Hid;rw [HC1.out,decide_eq_true oM];rfl);(go_wp2_with fail);refine (I4 F _ g B0 b [] 0 2 true w9 H dC).mono ?_;rintro e w10 ⟨rfl,H5,W5⟩;rw [show AG true 2 0=2 from rfl] at H5;(try go_wp2);go_meet
   case rel=>exact (show Dn _ _ _ _ _ _ _ from ⟨_,_,_,_,by rw [HC2.out];exact H5,W5,fun e=>by rw [HC2.out] at e;cases e⟩)
  rw [if_pos KL] at he;subst he;have HC2:Hid (AQ b ⟨1,ky,ch,tt,am,fe,ys⟩=0):=by unfold Hid;rw [HC1.out,decide_eq_false oM];rfl
  go_wp2_with fail
  refine (Kl F _ g B0 b [] 0 2 w9 H).mono ?_;rintro e w10 ⟨rfl,rfl⟩;have FIN:=H.wallet (b.wallet+am) uI;obtain ⟨yp,zp,lp,PP,-,-⟩:=H.cells;have q2:=PP.cell 2 _ rfl;have zr:=PP.fz 2 AF;obtain ⟨PE',nE'⟩:=FIN.2.box PE nE;clear p2 e4;go_upto_region 11 with fail
  generalize World.setCell w9 ⟨g,2,none⟩ (Value.int IntKind.i64 (b.wallet+am))=w10 at FIN PE' ⊢;have H5:=FIN.1;have WX:=FIN.2;have PE:=PE';have nE:=nE';clear FIN PE' nE' q2 zr PP;exact r9):p:=h
theorem qQ(h:p:=by
 clear p0 p1 p2 x0 x1 x2 ho5 P5 hl;obtain ⟨p0,p1,p2⟩:=P6.c3;obtain ⟨x0,x1,x2⟩:=X6.c3
 first
 |clear B6Z
  go_wp2;go_roundw
  case rel=>exact ⟨k+1,true,EE,AA,Ab,rfl,ho6,Lc,fun _=>hgo.out,Nq,hB6⟩
  case measure=>simp only [intOf];omega
 |have HBO:=lH hbo;have HBX:=lH hbx;clear hbo hbx
  first
  |clear A35
   (go_wp2_with (at_builtin;refine Df DS Tryz.underlying55 rfl dC dC (fun _=>rfl) Dh rfl _ _ rfl w0 _ EE rfl (AC.alloc ho6 _) _ ⟨yk,yc,ya+xa⟩ rfl (BC _ _ _ rfl) oM (Nat.le_trans hB6.size (Aj _ _)) ?_));intro v8 w8 o8 b8 g8;obtain ⟨E2,hE2⟩:∃ l,l=EE ++ [(⟨yk,yc,ya+xa⟩:Ln)]:=⟨_,rfl⟩;exact gB
  |clear A36
   (go_wp2_with (at_builtin;refine Df DS Tryz.underlying55 rfl dC dC (fun _=>rfl) Dh rfl _ _ rfl w0 _ EE rfl (AC.alloc ho6 _) _ ⟨yk,xc,xa⟩ rfl (BC _ _ _ rfl) oM (Nat.le_trans hB6.size (Aj _ _)) ?_));intro v8 w8 o8 b8 g8;obtain ⟨E2,hE2⟩:∃ l,l=EE ++ [(⟨yk,xc,xa⟩:Ln)]:=⟨_,rfl⟩;exact gA
  |(go_wp2_with (at_builtin;refine Df DS Tryz.underlying55 rfl dC dC (fun _=>rfl) Dh rfl _ _ rfl w0 _ EE rfl (AC.alloc ho6 _) _ ⟨xk,xc,xa⟩ rfl (BC _ _ _ rfl) oM (Nat.le_trans hB6.size (Aj _ _)) ?_));have C28:=trivial;exact RS):p:=h
theorem OO(h:p:=by
 rw [hw2] at FC PS QS0;obtain ⟨zs0,zs1,zs2,zs3,zs4,zs5⟩:=PS.c6;have zue2:=QS0.cell 2 _ rfl
 first
 |clear B2N
  have zue3:=QS0.cell 3 _ rfl;have zue4:=QS0.cell 4 _ rfl;have zk0:=(FC.1.at ai HAid.out hso).1 2 _ rfl;have zk1:=(FC.1.at di HDid.out hso).1 3 _ rfl
  first
  |clear B9B
   have B19:=trivial;exact jB
  |clear C0Z
   clear hw2;exact mZ
  |exact fg
 |have zue4:=QS0.cell 4 _ rfl
  first
  |clear B3P
   clear hw2;exact mY
  |clear A63
   exact jB
  |have B2A:=trivial;exact fg):p:=h
theorem ou(h:p:=by
 obtain ⟨hne,hx1,hx2⟩:=HK.ap;have hi1:=(DO b.chans _).2 hx1;have hi2:=(DO b.chans _).2 hx2
 first
 |clear B4U
  first
  |clear A6O
   obtain ⟨L,hL⟩:∃ L,L=b.htlcs.filter (fun h => !decide (h.key=ky)):=⟨_,rfl⟩;rw [← hL];have HLF:=lH hL;clear hL hx1 hx2 hh;have hso:=hb.so;have hcks:=hb.ck;have a1:=HK.ain;have a2:=HK.o1;have a3:=HK.o2;clear HK;obtain ⟨q0,q1,q2,q3,q4,q5,q6⟩:=h;dsimp only at h3 hne hi1 hi2 a1 a2 a3 ⊢;unfold Am at a1;have B7Y:=trivial;exact gj
  |have hcut:=M5 (fun h=>h.key) b.htlcs i h hb.pk.ndH h2;simp only [h3] at hcut;obtain ⟨L,hL⟩:∃ L,L=b.htlcs.filter (fun h => !decide (h.key=ky)):=⟨_,rfl⟩;rw [← hL] at hcut ⊢;clear hL;have HCUT:=lH hcut;clear hcut hx1 hx2 hh h4;have hso:=hb.so;have hcks:=hb.ck;have hsm:b.htlcs.length≤60:=hb.pk.h60;have a1:=HK.ain;have a2:=HK.o1;have a3:=HK.o2;clear HK hb;obtain ⟨q0,q1,q2,q3,q4,q5,q6⟩:=h;dsimp only at h3 hne hi1 hi2 a1 a2 a3 ⊢;unfold Am at a1;exact nT
 |first
  |clear A6P
   obtain ⟨L,hL⟩:∃ L,L=b.circles.filter (fun h => !decide (h.key=ky)):=⟨_,rfl⟩;rw [← hL];have HLF:=lH hL;clear hL hx1 hx2 hh;have hso:=hb.so;have hcks:=hb.ck;have a1:=HK.amt;have a2:=HK.a1;have a3:=HK.fee;clear HK;obtain ⟨q0,q1,q2,q3,q4⟩:=h;dsimp only at h3 hne hi1 hi2 a1 a2 a3 ⊢;unfold Am at a1 a3;exact gj
  |have hcut:=M5 (fun h=>h.key) b.circles i h hb.pk.ndO h2;simp only [h3] at hcut;obtain ⟨L,hL⟩:∃ L,L=b.circles.filter (fun h => !decide (h.key=ky)):=⟨_,rfl⟩;rw [← hL] at hcut ⊢;clear hL;have HCUT:=lH hcut;clear hcut hx1 hx2 hh h4;have hso:=hb.so;have hcks:=hb.ck;have hsm:b.circles.length≤20:=hb.pk.c20;have a1:=HK.amt;have a2:=HK.a1;have a3:=HK.fee;clear HK hb;obtain ⟨q0,q1,q2,q3,q4⟩:=h;dsimp only at h3 hne hi1 hi2 a1 a2 a3 ⊢;unfold Am at a1 a3;have C29:=trivial;exact nT):p:=h
theorem Pd(h:p:=by
 obtain ⟨h1,hc⟩:=Ez hc oM;obtain ⟨h2,hc⟩:=Ez hc oM;obtain ⟨h3,hc⟩:=Ez hc oM
 first
 |clear C3A
  rw [Bool.or_eq_false_iff] at h2;have h1:=of_decide_eq_false h1;have h22:=of_decide_eq_false h2.2;have h3:=of_decide_eq_false h3;exact yQ h A3 A3 A3 A3 h2.1 oM A3 rfl
 |obtain ⟨h4,hc⟩:=Ez hc oM
  first
  |clear C3B
   have h2:AI b.chans ch=true:=NZ;rw [h2,Bool.true_and] at h1;have h1:=of_decide_eq_false h1;have h4:=of_decide_eq_false h4;exact tT h A3 h2 h3 A3 A3 rfl
  |obtain ⟨h5,hc⟩:=Ez hc oM;obtain ⟨h6,hc⟩:=Ez hc oM;rw [Bool.or_eq_false_iff] at h1;have h2:AI b.chans ch=true∧AI b.chans too=true:=NZ;have h3:=of_decide_eq_false h3
   first
   |clear C3C
    have h5:=of_decide_eq_false h5;have h6:=of_decide_eq_false h6;rw [Bool.not_eq_false',Bool.and_eq_true] at h4;have ha:=NO h4.2;exact A07 h A3 A3 A3 h1.1 h1.2 h2.1 h2.2 oM Ro Ro Ro A3 rfl
   |have h4:=of_decide_eq_false h4;have h5:=of_decide_eq_false h5;have h6:=of_decide_eq_false h6;exact vQ h A3 A3 A3 A3 h1.1 h1.2 h2.1 h2.2 oM A3 A3 A3 rfl):p:=h
theorem TD(h:p:=by
 obtain ⟨RB,nR⟩:=W7.box RB nR;obtain ⟨RP,nP⟩:=W7.box RP nP;have BX:=BX.trans (H.below W7 hwg hB0)
 first
 |clear A9W
  clear H W7 PE nE hpl PB nB V4;have B9Y:=trivial;exact UL
 |obtain ⟨cd,hcd⟩:∃ c,c=AQ b ⟨kd,ky,ch,tt,am,fe,ys⟩:=⟨_,rfl⟩;have hgd:Ev.good ⟨kd,ky,ch,tt,am,fe,ys⟩=true:=hg;rw [← hcd] at H7 hdone;have HCD:=lH hcd
  first
  |clear C3D
   clear hcd H W7 PE nE hpl;have B9Z:=trivial;exact UL
  |clear hcd H W7 PE nE hpl PB nB V4;exact UL):p:=h
theorem ph(h:p:=by
 replace hT:=hTx;replace hs:X0.heap.size≤X2.heap.size:=Gr;replace ho1:=ho1.kept exx (Eb ho1.lt oM)
 first
 |clear B5g
  replace ho2:=ho2.kept exx (Eb ho2.lt oM);clear hTx exx hZ
  first
  |clear C1h
   have p:=hT.p.cell 17 _ rfl;(go_wp2_with fail);refine (NQ _ W.took X2 (V.took.keep hT.b) hB.2.2.1).mono ?_;rintro e w3 ⟨⟨F3,u0,rfl,ho3⟩,hb⟩;exact kt
  |clear C1i
   (go_wp2_with ((show Go.wpList _ _ _ ((Go.Oper.mk _ (Go.Op.load 35 _) _ _ _ _) :: _) _ _);refine Ce A1O zt rfl _ rfl _ _ rfl _ (hT.p.range 10 [h.ledger.last,l] rfl) rfl ?_));refine (zb _ h.ledger X2 (V.ledger.keep hT.b) hB.2.2.1).mono ?_;rintro e w3 ⟨⟨F3,u0,rfl,ho3⟩,hb⟩;have hl:=ho3.lt;replace ho3:=ho3.le hs;exact ku
  |first
   |clear C1g
    have hO:Bx X2 (w.heap.size+1+1) [(.slice a10 n10 k10),(.slice a20 n20 k20)]:=hT.o
    go_wp2_with (first
     | ((show Go.wpList _ _ _ ((Go.Oper.mk _ (Go.Op.load 47 _) _ _ _ _) :: _) _ _);refine Ce Yb Ke rfl _ rfl _ _ rfl _ hO.rng rfl ?_)
     | ((show Go.wpList _ _ _ ((Go.Oper.mk _ (Go.Op.store 47 _ _) _ _ _ _) :: _) _ _);refine Jj hT oM oM oM Ke rfl _ _ rfl rfl rfl AF rfl rfl fun XF hTx exx hZ => ?_))
    exact UH
   |have p:=hT.p.cell 5 _ rfl;(go_wp2_with fail);refine (A00 _ b.circles X2 (V.circles.keep hT.b) hB.2.2).mono ?_;rintro e w3 ⟨⟨F3,u2,rfl,ho3⟩,hb⟩;have C1b:=trivial;exact kt
 |clear hTx exx hZ;have p:=hT.p.cell 3 _ rfl;have o:=hT.o.cell 3 _ rfl;have q:=hT.o.fz 3 AF;go_upto_region 5 with fail
  clear p o q;have hTx:T3 w (X2.setCell ⟨(w.heap.size+1+1),3,none⟩ l.epoch) _ _ _ _ _ _∧Ex [(w.heap.size+1+1)] X2 (X2.setCell ⟨(w.heap.size+1+1),3,none⟩ l.epoch)∧(X2.setCell ⟨(w.heap.size+1+1),3,none⟩ l.epoch).heap.size=X2.heap.size:=hT.putO 3 [(.int .i64 l.epoch)] oM oM oM AF;generalize X2.setCell ⟨(w.heap.size+1+1),3,none⟩ l.epoch=X3 at hTx ⊢;obtain ⟨hTx,exx,hZ⟩:=hTx;replace hT:=hTx;replace hs:X0.heap.size≤X3.heap.size:=Gr;replace ho1:=ho1.kept exx (Eb ho1.lt oM);clear hTx exx hZ;have hO:Bx X3 (w.heap.size+1+1) [(.slice a10 n10 k10),(.slice a11 n11 k11),l.next,l.epoch]:=hT.o
  go_wp2_with (first
   | ((show Go.wpList _ _ _ ((Go.Oper.mk _ (Go.Op.load 49 _) _ _ _ _) :: _) _ _);refine Ce Uu ND rfl _ rfl _ _ rfl _ hO.rng rfl ?_)
   | ((show Go.wpList _ _ _ ((Go.Oper.mk _ (Go.Op.store 49 _ _) _ _ _ _) :: _) _ _);refine Jj hT oM oM oM ND rfl _ _ rfl rfl rfl AF rfl rfl fun XF hTx exx hZ => ?_))
  clear hO;replace hT:=hTx;replace hs:X0.heap.size≤XF.heap.size:=Gr;replace ho1:=ho1.kept exx (Eb ho1.lt oM);clear hTx exx hZ;have hR:Bx XF (w.heap.size+1) [(.slice a10 n10 k10),(.slice a11 n11 k11),l.next,l.epoch]:=hT.r;have hL:=Iq Uu ND hR rfl;refine bodyPost_ret (v := .agg #[(.slice a10 n10 k10),(.slice a11 n11 k11),l.next,l.epoch]) (by simp only [results,Tryz.results78];simp [Act.put,hL,asAddr]) rfl ?_;exact PL):p:=h
theorem sg(h:p:=by
 obtain ⟨kn,hkn⟩:∃ n,n=KK.length:=⟨_,rfl⟩;rw [← hkn] at VK hKl ⊢;have HKN:=lH hkn
 first
 |clear C2Y
  clear hKK hall hKe hall2 hIok ho hkn;go_wp2;go_loopw [9,10,105] (fun _ _ i wr=>∃ k:Nat,k≤kn∧i=k∧Hid (DT [] KK=DT (KK.take k) (KK.drop k))∧w3=wr) (fun _ _ i _=>kn - (intOf i).toNat)
  case atStart=>exact ⟨0,Nat.zero_le _,rfl,rfl,rfl⟩
  case round =>
   obtain ⟨k,hk,rfl,hkg,rfl⟩:=hrel;by_cases hlt:k<kn;rotate_left
   ·have hyes:Hid (CW b=true):=by
     unfold Hid;rw [JJ,hund.out];unfold Fb;rw [hkg.out,List.drop_of_length_le (by have:=HKN.out;omega),Vi,decide_eq_true EL,decide_eq_true KG];rfl
    exact su
   have B71:=trivial;exact lW
 |clear CK O3 hkn hKK b3 p0 p1 p2 p3 p4 p5 PX hB;go_wp2;go_loopw [8,9,91] (fun _ _ i wr=>∃ k:Nat,k≤kn∧i=k∧Hid (DT [] KK=DT (KK.take k) (KK.drop k))∧w3=wr) (fun _ _ i _=>kn - (intOf i).toNat)
  case atStart=>exact ⟨0,Nat.zero_le _,rfl,rfl,rfl⟩
  case round =>
   obtain ⟨k,hk,rfl,hkg,rfl⟩:=hrel;by_cases hlt:k<kn;rotate_left
   ·have hyes:Hid (Bv b=true):=by
     unfold Hid;rw [hund.out];unfold Fb;rw [hkg.out,List.drop_of_length_le (by have:=HKN.out;omega),Vi]
    exact su
   exact lW):p:=h
theorem C3E(h:p:=by
 unfold Hid;rw [hgo.out,show n - k=(n - (k+1))+1 by omega,QG hs (fun e=>h1 e.1)];simp):p:=h
theorem C3F(h:p:=by
 unfold Hid;rw [hgo.out,show n - k=(n - (k+1))+1 by omega,QG hs (fun e=>h2 e.2)];simp):p:=h
theorem sx(h:p:=by
 obtain ⟨wf,hwf⟩:∃ x,x=w6:=⟨_,rfl⟩;rw [← hwf] at H5 WX T1 T2 PE c4 tf ⊢;clear hwf
 first
 |clear C3G
  go_cut [] (fun wq=>Wk F (.slice ax n cx) wq g B b [] (AG (decide (D.loc<am)) 12 k6)∧Wf g F F wf wq)
  case first =>
   go_region_with (go_at_call 260;refine (D5 F _ g B b [] _ 12 _ _ (H5.keep (bW))).mono ?_;rintro e w6 ⟨rfl,H6,W6⟩)
   all_goals
    go_wp2_with fail
    go_meet
    case rel=>exact ⟨H6,(Wf.of_below (bW)).trans W6⟩
  case rest =>
   exact ll
 |go_cut [] (fun wq=>Wk F (.slice ax n cx) wq g B b [] (AG (decide (D.rem<am)) 11 k6)∧Wf g F F wf wq)
  case first =>
   go_region_with (go_at_call 260;refine (D5 F _ g B b [] _ 11 _ _ (H5.keep (bW))).mono ?_;rintro e w6 ⟨rfl,H6,W6⟩)
   all_goals
    go_wp2_with fail
    go_meet
    case rel=>exact ⟨H6,(Wf.of_below (bW)).trans W6⟩
  case rest =>
   have C3H:=trivial;exact ll):p:=h
theorem rX(h:p:=by
 go_roundw
 case rel=>exact ⟨k+1,r,AA,Ab,rfl,AA,hall2,hB2⟩
 case measure=>simp [intOf];omega):p:=h
theorem Re(h:p:=by
 go_wp2;go_ret;exact ⟨Ag FI,rfl⟩):p:=h
theorem qZ(h:p:=by
 clear bx;exact OW):p:=h
theorem C3I(h:p:=by
 unfold Dy AH Ad;exact sy):p:=h
theorem C3J(h:p:=by
 unfold D0 AH Ad;exact sy):p:=h
theorem Zf(h:p:=by
 obtain ⟨F0,h0,e,hd,hi⟩:=h;subst e;exact ⟨_,h0.kept hx (fun k hk=>hn k (hk)),rfl,hd,hi⟩):p:=h
theorem C3K(h:p:=by
 rcases HSV.out with ⟨-,h2,-⟩ | ⟨h1,-,-⟩
 ·exact h2
 cases h1):p:=h
theorem pt(h:p:=by
 rcases List.mem_append.1 hk with hk | hk
 ·exact (a0.lt k hk).2
 exact (a1.lt k hk).2):p:=h
theorem px(h:p:=by
 rcases List.mem_append.1 hk with hk | hk
 ·exact (a2.lt k hk).2
 exact (O.lt k hk).2):p:=h
theorem s8(h:p:=by
 try go_wp2_with fail
 go_meet
 case rel=>exact ⟨wc1,rfl,Bc1.size,FQ,FB⟩):p:=h
theorem C3L(h:p:=by
 unfold Hid;rw [hgo.out,show n - k=(n - (k+1))+1 by omega,XX hs];simp):p:=h
theorem Yw(h:p:=by
 intro u hu;obtain ⟨y,_,hy2⟩:=List.mem_flatMap.1 hu;exact hone y u hy2):p:=h
theorem s9(h:p:=by
 go_wp2;go_ret;exact ⟨KO,by have:=Bc4;exact AD this BX⟩):p:=h
theorem ZK(h:p:=by
 have:=h x List.mem_cons_self
 simp only [List.map_cons,List.sum_cons];omega):p:=h
theorem mz(h:p:=by
 go_wp2;go_ret;exact ⟨⟨_,rfl,by simp [hne.out]⟩,Below.refl _ _⟩):p:=h
theorem bC(h:p:=by
 go_wp2;go_end0
 exact ⟨rfl,F,by rw [hi.out];exact H,Wf.refl _ _ _⟩):p:=h
theorem ZU(h:p:=by
 unfold Ah at h;rw [Bool.and_eq_true] at h;exact of_decide_eq_true h.1):p:=h
theorem Z9(h:p:=by
 split
 ·rw [if_neg (fun e=>by rw [h] at e;exact absurd e.1 sM)]
 rfl):p:=h
theorem C3M(h:p:=by
 unfold Hid;rw [hgo.out,show n - k=0 by omega,DM];simp):p:=h
theorem su(h:p:=by
 go_wp2;go_ret;exact ⟨Ag Rr,hBw⟩):p:=h
theorem iK(h:p:=by
 rcases hsq with rfl | ⟨rfl,rfl⟩ | ⟨rfl,rfl,rfl⟩ | ⟨rfl,rfl,rfl,rfl⟩ | ⟨rfl,rfl,rfl,rfl⟩
 iterate 5
  ·exact A7a):p:=h
theorem EP(h:p:=by
 go_region_with (fail)
 all_goals
  go_wp2_with fail
  go_meet
  case rel=>rfl):p:=h
theorem Bc(h:p:=by
 (try dsimp only);go_keep):p:=h
theorem Fl(h:p:=by
 rw [Bool.eq_iff_iff];cases yes<;>simp [Ah,Fa,DB,and_assoc]<;>omega):p:=h
theorem FY(h:p:=by
 refine wpAnyH_done kR ?_ _;refine NoPanic.normal ?_
 first
 |clear B1d
  first
  |clear A7f
   have hres:Hid (DY (⟨true,hub,dk,tk,st,cd⟩:Wd)=false):=by
    unfold Hid;rw [Bool.eq_false_iff];intro e;have e2:=((M9 rfl).1 e).1;have:=H1.out;rw [show Bd hub=true from e2] at this;cases this
   go_wp2;go_ret;exact ⟨KO,by have:=Bc1;exact AD this BX⟩
  |have hres:Hid (DY (⟨true,hub,dk,tk,st,cd⟩:Wd)=false):=by
    unfold Hid;rw [Bool.eq_false_iff];intro e;have e2:=((M9 rfl).1 e).2.1;have:=H2.out;rw [(Kx dk).2 e2] at this;cases this
   go_wp2;go_ret;exact ⟨KO,SM⟩
 |clear B4u
  have V10:Bf w10 w10 (.slice a10 nt k10) (h.sent ++ h.wait):=AC.vs (fun _=>rfl) o10 (fun x hx=>eS);have EV:=EV.keep B10;have BX:=AD B10 BX;by_cases hle:nt≤ne;rotate_left
  ·(have e1:decide ((nt:Int)≤(ne:Int))=false:=by simp [hle]);exact rN
  have e1:decide ((nt:Int)≤(ne:Int))=true:=by simp [hle]
  obtain ⟨dk,hdk⟩:∃ n,n=ne - nt:=⟨_,rfl⟩
  have hw:IntKind.i64.wrap ((ne:Int) - (nt:Int))=(dk:Int):=by
   (have:=HNE.out);exact UT
  have hdn:dk≤ne:=AA;have hdt:Hid (ne - dk=nt):=Ia;have hnk:=VS.le' EV;have hn600:ne≤600:=by have:=HNE.out;omega
  clear hdk;rcases HF.out with ⟨rfl,rfl,rfl⟩ | ⟨g,rfl⟩
  ·obtain rfl:dk=0:=AA;obtain rfl:nt=0:=AA;(have VD:Bf w10 w10 (.slice none 0 0) ((Av h.log.disk).drop 0):=by rw [List.drop_zero];exact EV);have C2w:=trivial;exact US
  by_cases hkd:ke=dk
  ·subst hkd;obtain rfl:ne=ke:=AA;obtain rfl:nt=0:=by have:=hdt.out;omega
   have VD:Bf w10 w10 (.slice (some ⟨g,0,none⟩) 0 0) ((Av h.log.disk).drop ne):=by
    (have:=VS.drop EV (k:=ne) (Nat.le_refl _) (a':=some ⟨g,0,none⟩) (by intro;omega));rw [Nat.sub_self] at this;exact this
   exact US
  have VD:Bf w10 w10 (.slice (some ⟨g,dk*7,none⟩) (ne - dk) (ke - dk)) ((Av h.log.disk).drop dk):=VS.drop EV hdn (by intro;simp);exact US
 |clear B4v
  have V11:Bf w11 w11 (.slice a11 nt k11) (h.sent ++ h.wait):=AC.vs (fun _=>rfl) o11 (fun x hx=>eS);have EV:=EV.keep B11;have BX:=AD B11 BX;have hn600:ne≤600:=by have:=HNE.out;omega
  by_cases hle:nt≤ne;rotate_left
  ·have e1:decide ((ne:Int)<(nt:Int))=true:=An;exact rN
  have e1:decide ((ne:Int)<(nt:Int))=false:=An;obtain ⟨dk,hdk⟩:∃ n,n=ne - nt:=⟨_,rfl⟩
  have hw:IntKind.i64.wrap ((ne:Int) - (nt:Int))=(dk:Int):=by
   exact UT
  have hdn:dk≤ne:=AA;have hsum:dk+nt=ne:=AA;have hdt:Hid (ne - dk=nt):=Ia;have HLAST:Hid ((false=true↔(Av h.log.disk).drop dk=h.sent ++ h.wait)→Bd h=false):=fun hq=>Mv H0.out H1.out H2.out H3.out HR.out (HQ1.out.1 GL) (HQ2.out.1 GL) HNE.out HNT.out hle hdt.out hdn hq;have HLASTT:Hid ((true=true↔(Av h.log.disk).drop dk=h.sent ++ h.wait)→Bd h=true):=fun hq=>Mv H0.out H1.out H2.out H3.out HR.out (HQ1.out.1 GL) (HQ2.out.1 GL) HNE.out HNT.out hle hdt.out hdn hq;clear hle hdk f112 f113 f12 f13 E10 E11 o10 o11 g10 g11 b10 b11;go_wp2;go_loopw [11,12,96] (fun _ _ i wr=>∃ k:Nat,k≤nt∧i=k∧Hid ((h.sent ++ h.wait).take k=((Av h.log.disk).drop dk).take k)∧Below w11 w11 wr) (fun _ _ i _=>nt - (intOf i).toNat)
  case atStart=>exact ⟨0,Nat.zero_le _,rfl,rfl,Below.refl _ _⟩
  case round =>
   obtain ⟨k,hk,rfl,htk,hB⟩:=hrel;by_cases hlt:k<nt;rotate_left
   ·have hall:(Av h.log.disk).drop dk=h.sent ++ h.wait:=by
     have h1:=htk.out;rw [List.take_of_length_le (by have:=HNT.out;omega),List.take_of_length_le (by rw [List.length_drop];have:=HNE.out;have:=hdt.out;omega)] at h1;exact h1.symm
    have hres:Hid (Bd h=true):=HLASTT.out ⟨fun _=>hall,fun _=>GL⟩;clear hall;go_wp2;go_ret;exact ⟨KO,AD hB BX⟩
   obtain ⟨g,off,x,rfl,hg,-,c0,c1,c2,c3,c4,c5,c6,hx,htx⟩:=(V11.keep hB).at7 hlt;(go_upto_region 15 with fail);refine cW fun w12 P12 bz => ?_;obtain ⟨uz,huz⟩:∃ u,u=wr.heap.size:=⟨_,rfl⟩;rw [← huz] at P12 ⊢;have hB12:=AD bz hB;have BZ:=AD hB12 BX;clear huz bz c0 c1 c2 c3 c4 c5 c6;obtain ⟨g',off',y,hae,hg',-,d0,d1,d2,d3,d4,d5,d6,hy,-⟩:=(EV.keep hB12).at7 (k:=dk+k) oM;subst hae;obtain ⟨p0,p1,p2,p3,p4,p5,p6⟩:=P12.c7;have hkn:dk+k<ne:=AA
   have hw2:IntKind.i64.wrap ((dk:Int)+(k:Int))=((dk+k:Nat):Int):=by
    exact UT
   by_cases hxy:x=y
   ·subst hxy;(have hgo:Hid ((h.sent ++ h.wait).take (k+1)=((Av h.log.disk).drop dk).take (k+1)):=by unfold Hid;rw [htx.out,htk.out,List.take_add_one (l:=(Av h.log.disk).drop dk),List.getElem?_drop,hy.out];rfl);clear hx hy htx;(go_quiet (fail));go_wp2;go_roundw
    case rel=>exact ⟨k+1,AA,Ab,hgo,C8 hB12⟩
    case measure=>simp only [intOf];omega
   have hno:h.sent ++ h.wait≠(Av h.log.disk).drop dk:=fun e=>by
    have h1:=hx.out;rw [e,List.getElem?_drop,hy.out] at h1;exact T5
   have hres:Hid (Bd h=false):=HLAST.out ⟨fun e=>Gj,fun e=>absurd e.symm hno⟩;clear hx hy htx hno;by_cases h0:x.kind=y.kind;rotate_left
   ·have e0:(x.kind == y.kind)=false:=A8;(have e0':(y.kind == x.kind)=false:=by simp [Ne.symm h0]);clear hxy;exact Jc
   have e0:(x.kind == y.kind)=true:=A8;have e0':(y.kind == x.kind)=true:=A8;by_cases h1:x.key=y.key;rotate_left
   ·have e1:(x.key == y.key)=false:=BG;(have e1':(y.key == x.key)=false:=by simp [Ne.symm h1]);clear hxy h0;exact Jc
   have e1:(x.key == y.key)=true:=BG;have e1':(y.key == x.key)=true:=BG;by_cases h2:x.ch=y.ch;rotate_left
   ·have e2:(x.ch == y.ch)=false:=Cs;(have e2':(y.ch == x.ch)=false:=by simp [Ne.symm h2]);clear hxy h0 h1;exact Jc
   have e2:(x.ch == y.ch)=true:=Cs;have e2':(y.ch == x.ch)=true:=Cs;by_cases h3:x.tw=y.tw;rotate_left
   ·have e3:(x.tw == y.tw)=false:=Fo;(have e3':(y.tw == x.tw)=false:=by simp [Ne.symm h3]);clear hxy h0 h1 h2;exact Jc
   have e3:(x.tw == y.tw)=true:=Fo;have e3':(y.tw == x.tw)=true:=Fo;by_cases h4:x.amt=y.amt;rotate_left
   ·have e4:(x.amt == y.amt)=false:=Fp;(have e4':(y.amt == x.amt)=false:=by simp [Ne.symm h4]);clear hxy h0 h1 h2 h3;exact Jc
   have e4:(x.amt == y.amt)=true:=Fp;have e4':(y.amt == x.amt)=true:=Fp;by_cases h5:x.fee=y.fee;rotate_left
   ·have e5:(x.fee == y.fee)=false:=Gp;(have e5':(y.fee == x.fee)=false:=by simp [Ne.symm h5]);clear hxy h0 h1 h2 h3 h4;exact Jc
   have e5:(x.fee == y.fee)=true:=Gp;have e5':(y.fee == x.fee)=true:=Gp;by_cases h6:x.yes=y.yes
   ·have e6:(x.yes == y.yes)=true:=Gq;have e6':(y.yes == x.yes)=true:=Gq;exact KQ
   have e6:(x.yes == y.yes)=false:=Gq;(have e6':(y.yes == x.yes)=false:=by simp [Ne.symm h6]);clear hxy h0 h1 h2 h3 h4 h5;exact Jc
 |clear C0j
  try go_wp2_with fail
  go_meet
  case rel=>exact ⟨Fr,by rw [HCD.out];exact ⟨Hc1,Wf.of_below Bc1⟩⟩
 |clear B8K
  try go_wp2_with fail
  go_meet
  first
  |clear B3l
   first
   |clear B6S
    first
    |clear C3N
     case rel=>rfl
    |case rel=>exact (show Dn _ _ _ _ _ _ _ from ⟨_,_,_,_,by rw [HC4.out];exact FK,FW,fun _=>⟨hdo,rfl⟩⟩)
   |clear B6N
    case rel=>rfl
   |clear C0v
    first
    |clear C3O
     case rel=>exact (show Dn _ _ _ _ _ _ _ from ⟨_,_,_,_,by rw [HC4.out];exact FK,FW,fun _=>⟨hdo,rfl⟩⟩)
    |case rel=>exact (show Dn _ _ _ _ _ _ _ from ⟨_,_,_,_,by rw [HC4.out];exact FK,FW,fun e=>by rw [HC4.out] at e;cases e⟩)
   |first
    |clear B9O
     case rel=>exact ⟨by rw [HQ3.out];exact H1,Wf.of_below b01⟩
    |case rel=>exact ⟨by rw [HQ3.out];exact FC.1,(Wf.of_below b01).trans FC.2⟩
  |clear B5o
   case rel=>exact ⟨Fr,SQ⟩
  |clear B5w
   first
   |clear C0l
    case rel=>exact ⟨N9,A6A⟩
   |clear B1r
    case rel=>exact ⟨N9,ea⟩
   |first
    |clear B3S
     case rel=>exact ⟨N9,A59⟩
    |case rel=>exact ⟨N9,ea⟩
  |clear B56
   first
   |clear B2B
    case rel=>exact ⟨Fr,eY⟩
   |first
    |clear B3O
     case rel=>exact ⟨Fr,by rw [HCD.out];exact ⟨Hc1,Wf.of_below Bc1⟩⟩
    |case rel=>exact ⟨Fr,SQ⟩
  |clear C0d
   case rel=>exact ⟨rfl,Bc1⟩
  |first
   |clear A8e
    first
    |clear B2C
     case rel=>exact ⟨Fr,eY⟩
    |case rel=>exact ⟨Fr,SQ⟩
   |first
    |clear C0Y
     case rel=>exact ⟨Fr,by rw [HCD.out];exact ⟨Hc2,Wf.of_below Bc2⟩⟩
    |case rel=>exact ⟨Fr,by rw [HCD.out];exact ⟨FC.1,(Wf.of_below Bc2).trans FC.2⟩⟩
 |clear C01
  obtain ⟨F',FK,FW⟩:=HR w8 _ L E8 o8 HFR.out HOKS.out
  first
  |clear C3P
   go_wp2_with fail
   all_goals
    go_meet
    case rel=>first | exact ⟨F',FK,FW⟩ | exact ⟨F',FK.keep (Below.drew (Below.refl _ _)),FW.trans (Wf.of_below (Below.drew (Below.refl _ _)))⟩
  |go_wp2_with fail
   all_goals
    go_meet
    case rel=>first | exact ⟨F',FK,FW⟩ | exact ⟨F',FK.keep (Below.drew (Below.refl _ _)),FW.trans (Wf.of_below (Below.drew (Below.refl _ _)))⟩
 |clear C0U
  first
  |clear C0W
   have hres:Hid (DY (⟨true,hub,dk,tk,st,cd⟩:Wd)=qq):=by
    unfold Hid;rw [Bool.eq_iff_iff,M9 rfl];exact ⟨fun e=>hqq.2 e.2.2,fun e=>⟨H1.out.symm,(Kx dk).1 H2.out.symm,hqq.1 e⟩⟩
   exact s9
  |have hres:Hid (DY (⟨true,hub,dk,tk,st,cd⟩:Wd)=qq):=by
    unfold Hid;rw [Bool.eq_iff_iff,M9 rfl];exact ⟨fun e=>(hqq.trans eq_comm).2 e.2.2,fun e=>⟨H1.out.symm,(Kx dk).1 H2.out.symm,(hqq.trans eq_comm).1 e⟩⟩
   exact s9
 |clear C0f
  first
  |clear B9J
   have H:=HD;have PE:=PE.keep BD;have WF:=WF.trans (Wf.of_below BD);obtain ⟨y9,z9,l9,P9,-,-⟩:=H.cells;have q9:=P9.cell 7 _ rfl;exact mH
  |have q9:w11.cell? ⟨g,7,none⟩=some (.int .i64 2):=by
    obtain ⟨y9,z9,l9,P9,-,-⟩:=FC.1.cells;exact P9.cell 7 _ rfl
   (try go_wp2_with fail);go_meet
   case rel=>exact (show Dn _ _ _ _ _ _ _ from ⟨_,_,_,_,by rw [HC2.out];exact FC.1,WF.trans ((Wf.of_below BD).trans FC.2),fun e=>by rw [HC2.out] at e;cases e⟩)
 |clear C0t
  go_wp2;refine bodyPost_ret A51 rfl ?_;rw [hres.out];dsimp only;exact tA
 |clear C0u
  go_wp2;refine bodyPost_ret (by simp only [results,Tryz.results119];go_simp;rfl) rfl ?_;rw [hres.out];dsimp only;exact tA
 |clear C0x
  go_wp2
  first
  |clear A8E
   refine bodyPost_ret SF rfl ?_;refine Bn.no (QP hb hg eG) eH ?_;exact bW
  |refine bodyPost_ret N5 rfl ?_;refine Bn.no (QP hb hg eG) eH ?_;exact bW
 |go_wp2
  first
  |clear A8H
   refine bodyPost_ret N5 rfl ?_;have FK:=((((((((H8.other nR 0 b7.tick).other nR 1 (.int .i64 (b7.next+1))).other nR 2 b7.wallet).other nR 3 (.slice a7 n7 c7)).other nR 4 (.slice a8 n8 c8)).other nR 5 (.slice a9 n9 c9)).other nP 0 b7.next).other nP 1 (.slice al nl cl)).keep (Below.drew (Below.refl _ _));exact Bn.yes FK hB0 happ GK GK GK rfl (bW)
  |refine bodyPost_ret SF rfl ?_
   first
   |clear A8J
    have FK:=((((((((H8.other nR 0 b7.tick).other nR 1 b7.next).other nR 2 b7.wallet).other nR 3 (.slice a7 n7 c7)).other nR 4 (.slice a8 n8 c8)).other nR 5 (.slice a9 n9 c9)).other nP 0 I0).other nP 1 (.slice none 0 0)).keep (Below.drew (Below.refl _ _));exact Bn.nil FK hB0 happ GK GK rfl (bW)
   |have FK:=((((((((H8.other nR 0 b7.tick).other nR 1 (.int .i64 (b7.next+1))).other nR 2 b7.wallet).other nR 3 (.slice a7 n7 c7)).other nR 4 (.slice a8 n8 c8)).other nR 5 (.slice a9 n9 c9)).other nP 0 b.next).other nP 1 (.slice al nl cl)).keep (Below.drew (Below.refl _ _));exact Bn.yes FK hB0 happ GK GK GK rfl (bW)):p:=h
theorem Ft(h:p:=by
 obtain ⟨e0,e1,e2,e3,e4,e5,e6⟩:=PE.c7;go_wp2_with fail
 first
 |clear A9M
  refine (vN F _ g B0 b 3 ky ch tt am fe ys _ H hb ho rfl hk.out.2.1 ha hf).mono ?_;exact Do
 |clear A9a
  refine (A1Q F _ g B0 b ky ch tt am fe ys _ H hb (I6 hn ⟨show (6:Int)≠1 by decide,show (6:Int)≠2 by decide,show (6:Int)≠3 by decide,show (6:Int)≠8 by decide⟩) hk.out.1.1).mono ?_;exact Do
 |clear A9b
  refine (wQ F _ g B0 b ky ch tt am fe ys _ H hb (I6 hn ⟨show (7:Int)≠1 by decide,show (7:Int)≠2 by decide,show (7:Int)≠3 by decide,show (7:Int)≠8 by decide⟩) hk.out.1.1).mono ?_;exact Do
 |clear A9c
  refine (uQ F _ g B0 b ky ch tt am fe ys _ H hb hn).mono ?_;exact Do
 |clear A9d
  refine (A1D F _ g B0 b ky ch tt am fe ys _ H hb (I6 hn ⟨show (10:Int)≠1 by decide,show (10:Int)≠2 by decide,show (10:Int)≠3 by decide,show (10:Int)≠8 by decide⟩) hk.out.1.1).mono ?_;exact Do
 |clear A9e
  refine (xg F _ g B0 b ky ch tt am fe ys _ H hb (I6 hn ⟨show (11:Int)≠1 by decide,show (11:Int)≠2 by decide,show (11:Int)≠3 by decide,show (11:Int)≠8 by decide⟩) hk.out.1.1).mono ?_;exact Do
 |clear B1g
  refine (yj F _ g B0 b 3 ky ch tt am fe ys _ H hb ho3 rfl hk.out.2.1 ha hf).mono ?_;rintro e w12 ⟨rfl,D⟩;have D:=Dn.pre WF D;try go_wp2_with fail
  go_meet
  case rel=>exact D
 |clear C2M
  first
  |clear C3Q
   refine (CO _ V4).mono ?_;rintro e w7 ⟨rfl,b7⟩;clear p0 p1 p2 p3 p4 p5;clear e0 e1 e2 e3 e4 e5 e6;have PB:=PB.keep b7;have PE:=PE.keep b7;have RB:=RB.keep b7;have RP:=RP.keep b7;have V4:=V4.keep b7;have BX:=Below.trans BX (Below.mono b7 BX.size);have hpl:=RP.lt
   first
   |clear B6q
    have A8L:=trivial;exact JU
   |obtain ⟨p0,p1,p2,p3,p4,p5⟩:=PB.c6;clear CO hcl;have hp7:=hpl;obtain ⟨B0,hB7⟩:∃ n,n=w7.heap.size:=⟨_,rfl⟩;(go_wp2_with fail);refine (Vk (.slice ax n cx) (.slice ay m cy) (.slice az q cz) b w7 V4 d9 eB eC).mono ?_;have A9m:=trivial;exact kE
  |clear A64
   refine (CB _ V4).mono ?_;rintro e w5 ⟨rfl,b5⟩;clear p0 p1 p2 p3 p4 p5;clear e0 e1 e2 e3 e4 e5 e6;have PB:=PB.keep b5;have PE:=PE.keep b5;have RB:=RB.keep b5;have RP:=RP.keep b5;have V4:=V4.keep b5;have BX:=Below.trans BX (Below.mono b5 BX.size);have hpl:=RP.lt;exact Si
  |refine (CG _).mono ?_;rintro e w6 ⟨rfl,b6⟩;clear p0 p1 p2 p3 p4 p5;clear e0 e1 e2 e3 e4 e5 e6;have PB:=PB.keep b6;have PE:=PE.keep b6;have RB:=RB.keep b6;have RP:=RP.keep b6;have V4:=V4.keep b6;have BX:=Below.trans BX (Below.mono b6 BX.size);have hpl:=RP.lt;clear CB CG b5 b6
   first
   |clear A67
    first
    |clear A4e
     exact JU
    |have CO:=fun w V=>xp (.slice ax n cx) (.slice ay m cy) (.slice az q cz) b kd ky ch tt am fe ys w V hwl ha hf hcl;rw [ho] at CO;have C3Q:=trivial;exact Si
   |first
    |clear B8Z
     have A8K:=trivial;exact JU
    |obtain ⟨p0,p1,p2,p3,p4,p5⟩:=PB.c6;have hp7:=hpl;obtain ⟨B0,hB7⟩:∃ n,n=w6.heap.size:=⟨_,rfl⟩;(go_wp2_with fail);refine (XD (.slice ax n cx) (.slice ay m cy) (.slice az q cz) b w6 V4 d9 eB eC).mono ?_;exact kE
 |clear C2j
  first
  |clear A9L
   refine (A0k F _ g B0 b 2 ky ch tt am fe ys _ H hb ho rfl hk.out.2.1 ha hf).mono ?_;exact Do
  |refine (A03 F _ g B0 b 2 ky ch tt am fe ys _ H hb hn rfl hk.out.2.1 ha hf).mono ?_;exact Do
 |clear C2k
  first
  |clear A9O
   refine (uB F _ g B0 b 5 ky ch tt am fe ys _ H hb ho rfl hk.out.1 hk.out.2.1 hk.out.2.2.1 hk.out.2.2.2.1 hf hk.out.2.2.2.2.2).mono ?_;exact Do
  |refine (uY F _ g B0 b 5 ky ch tt am fe ys _ H hb (I6 hn ⟨show (5:Int)≠1 by decide,show (5:Int)≠2 by decide,show (5:Int)≠3 by decide,show (5:Int)≠8 by decide⟩) rfl hk.out.1 hk.out.2.1 hk.out.2.2.1 hk.out.2.2.2.1 hf hk.out.2.2.2.2.2).mono ?_;exact Do
 |first
  |clear A9S
   refine (wE F _ g B0 b 9 ky ch tt am fe ys _ H hb ho rfl hk.out.1 hk.out.2.1 hk.out.2.2.1 hk.out.2.2.2.1 hf hk.out.2.2.2.2.2.1).mono ?_;exact Do
  |refine (A0m F _ g B0 b 9 ky ch tt am fe ys _ H hb (I6 hn ⟨show (9:Int)≠1 by decide,show (9:Int)≠2 by decide,show (9:Int)≠3 by decide,show (9:Int)≠8 by decide⟩) rfl hk.out.1 hk.out.2.1 hk.out.2.2.1 hk.out.2.2.2.1 hf hk.out.2.2.2.2.2.1).mono ?_;exact Do):p:=h
theorem Id(h:p:=by
 rintro e w' ⟨rfl,F',H',W'⟩;exact ⟨rfl,F',x,_,_,SJ,W',fun _=>⟨rfl,rfl⟩⟩):p:=h
theorem ry(h:p:=by
 have hy:Hid (DD ⟨sq,ep,body⟩=false):=by
  exact C2E
 rcases (show sq<0∨(0≤sq∧599<sq)∨((0≤sq∧sq≤599)∧ep<1)∨((0≤sq∧sq≤599)∧16000000<ep)∨(((0≤sq∧sq≤599)∧(1≤ep∧ep≤16000000))∧100<n) by omega) with h1 | ⟨h1,h2⟩ | ⟨⟨h1,h2⟩,h3⟩ | ⟨⟨h1,h2⟩,h3⟩ | ⟨⟨⟨h1,h2⟩,⟨h3,h4⟩⟩,h5⟩
 first
 |clear B9q
  all_goals
   clear h
   go_enter Tryz.func272,Tryz.ntmps272
   go_wp2
   go_ret
   exact ⟨Ag Nl,bW⟩
 |all_goals
   clear h
   go_enter Tryz.func253,Tryz.ntmps253
   go_wp2
   go_ret
   exact ⟨Ag Nl,bW⟩):p:=h
theorem MH(h:p:=by
 obtain ⟨rest,ho,hr⟩:=hown;exact ⟨rest,ho.kept (row:=none) ⟨hb2.os,hb2.tape,hb2.output,hb2.size,fun k hk _=>hb2.block k hk⟩ FF,hr⟩):p:=h
theorem Ys(h:p:=by
 go_enter Tryz.func264,Tryz.ntmps264
 go_wp2_with (((first | (go_at_call 231;refine (Az _ _).mono ?_) | (go_at_call 308;refine (Qg _ _).mono ?_));rintro e w1 ⟨rfl,rfl⟩))
 first
 |clear A2W
  all_goals
   go_ret2
   exact ⟨rfl,rfl⟩
 |go_ret2;exact ⟨rfl,rfl⟩):p:=h
theorem Ic(h:p:=by
 go_enter Tryz.func169,Tryz.ntmps169
 go_wp2_with (((first | (go_at_call 231;refine (Az _ _).mono ?_) | (go_at_call 238;refine (Mc _ _).mono ?_) | (go_at_call 259;refine (Ph _ _).mono ?_));rintro e w1 ⟨rfl,rfl⟩))
 first
 |clear A3p
  all_goals
   go_ret
   exact ⟨R7,bW⟩
 |clear B7g
  all_goals (try (go_region;all_goals go_wp2_with (((first | (go_at_call 231;refine (Az _ _).mono ?_) | (go_at_call 238;refine (Mc _ _).mono ?_) | (go_at_call 259;refine (Ph _ _).mono ?_));rintro e w1 ⟨rfl,rfl⟩))))
  all_goals
   go_ret
   refine ⟨Ag ?_,bW⟩
   rw [hr.out]
   clear hr
   (try simp only [AH,Gh,Et,Ad,decide_eq_true_eq,decide_eq_false_iff_not,bne_iff_ne,beq_iff_eq,ne_eq,Bool.not_eq_true,Bool.not_eq_false,Bool.false_eq_true,not_false_eq_true,not_true_eq_false,Bool.true_eq_false] at *)
   first | exact tt Np | exact ff Np | (rw [Bool.eq_iff_iff];simp_all<;>omega)
 |all_goals
   go_ret
   refine ⟨Ag ?_,bW⟩
   rw [hr.out]
   clear hr
   (try simp only [AH,Gh,Et,Ad,decide_eq_true_eq,decide_eq_false_iff_not,bne_iff_ne,beq_iff_eq,ne_eq,Bool.not_eq_true,Bool.not_eq_false,Bool.false_eq_true,not_false_eq_true,not_true_eq_false,Bool.true_eq_false] at *)
   first | exact tt Np | exact ff Np | (rw [Bool.eq_iff_iff];simp_all<;>omega)):p:=h
theorem JQ(h:p:=by
 rintro e w' ⟨rfl,H',W'⟩;exact ⟨rfl,F,x,b,[],SJ,W',fun e=>A5t⟩):p:=h
theorem JY(h:p:=by
 simp only [Value.slice.injEq] at hxe;obtain ⟨rfl,rfl,rfl⟩:=hxe
 first
 |clear B9r
  have H:=H.keep bb;have PE:=PE.keep bb;have hne:¬ gx=ue:=fun e=>nE (by rw [← e];exact List.mem_cons_of_mem _ hgF);have hne':¬ ue=gx:=fun e=>hne e.symm;have B84:=trivial;exact rY
 |clear C3R
  have hlt:i<n:=Cb;exact tB
 |clear A80
  have e1:p1=p2:=by (simp at hxe2;omega)
  subst e1;have aid:A.id=ch:=by rw [HA.out];exact (Ei hc1).2
  have did:D.id=tt:=by rw [HD.out];exact (Ei hc2).2
  have hso:=hb.so;have aok:=H5.oks A (List.mem_of_getElem? ai);have dok:=H5.oks D (List.mem_of_getElem? di)
  first
  |clear C3S
   clear hxe2 Y1 Y2 T1 T2;subst h0;have e7:((0:Int) != 0)=false:=rfl;obtain ⟨yq,zq,lq,PQ,-,-⟩:=H5.cells;have pq:=PQ.cell 7 _ rfl;have C3T:=trivial;exact Oj
  |have u:=T1.cell H5;have v:=T2.cell H5;have u0:=u 0 _ rfl;have v0:=v 0 _ rfl;have u1:=u 1 _ rfl;have v1:=v 1 _ rfl;have u2:=u 2 _ rfl;have v2:=v 2 _ rfl;have u3:=u 3 _ rfl;have v3:=v 3 _ rfl;have u4:=u 4 _ rfl;have v4:=v 4 _ rfl;have u5:=u 5 _ rfl;have v5:=v 5 _ rfl;have u6:=u 6 _ rfl;have v6:=v 6 _ rfl;simp only [Nat.add_zero] at u0 v0;clear hxe2 Y1 Y2 T1 T2 u v;(have e6:(k7 == 0)=true:=by rw [h0];rfl);rw [h0] at H5;(have HCD0:Hid (cd=AG (decide (rv=0)) 13 0):=by have:=HCD.out;rw [h0] at this;exact this);obtain ⟨yq,zq,lq,PQ,-,-⟩:=H5.cells;have pq:w7.cell? ⟨g,7,none⟩=.some I0:=PQ.cell 7 _ rfl;exact Oj
 |clear C3U
  have hin:i<n1:=AA;have e0:decide ((i:Int)<0)=false:=decide_eq_false oM;have hI1:(0:Int)≤(i:Int):=AA;have hI2:(i:Int)<(n1:Int):=AA;clear hnx hcx hrx h1 hget hlt hh HC0;go_wp2_with fail
  refine (Kl F _ g B0 b [] 0 6 w10 H).mono ?_;rintro e w11 ⟨rfl,rfl⟩;have hne:¬ gx=ue:=fun e=>nE (by rw [← e];exact List.mem_cons_of_mem _ hgF);have hne':¬ ue=gx:=fun e=>hne e.symm;have hng:¬ gx=g:=fun e=>H.gF (e ▸ hgF);have hng':¬ g=gx:=fun e=>hng e.symm;exact rY
 |clear B21
  have OKS:=VR.oks
  first
  |clear C3V
   obtain ⟨L,hL⟩:∃ l,l=A6 b.chans (⟨ch,am+fe,am,fe,0,0,0⟩:Cn):=⟨_,rfl⟩;have C3W:=trivial;exact tC
  |obtain ⟨L,hL⟩:∃ L,L=b.chans.filter (fun c => !decide (c.id=ch)):=⟨_,rfl⟩;(have hoks:∀ y∈L,y.ok:=fun y hy=>by rw [hL] at hy;exact OKS y (List.mem_filter.1 hy).1);exact pz
 |clear B7X
  have hian:ia<n:=AA;have hjdn:jd<n:=AA;have hiI:(0:Int)≤(ia:Int):=AA;have hiN:(ia:Int)<(n:Int):=AA;have hjI:(0:Int)≤(jd:Int):=AA;have hjN:(jd:Int)<(n:Int):=AA;have HAid:=lH aid;have HDid:=lH did;have HI1:=lH ha1;have HJ1:=lH hd1;clear hcA hcB hnx hcx hrx ha1 hd1 aid did aget dget r14 ialt jdlt;have hcd:=HC.out;rw [← HTW.out,← HC1.out] at hcd;have HC2:=lH hcd;clear hcd HC HC1
  first
  |clear B99
   have c4:=PE.cell 4 _ rfl;have c5:=PE.cell 5 _ rfl;clear CDC;have B2O:=trivial;exact ms
  |obtain ⟨w0,hw0⟩:∃ x,x=w2:=⟨_,rfl⟩;rw [← hw0] at H5 WX PE ⊢;clear hw0;(go_upto_region 2 with fail);have C15:=trivial;exact Sb
 |first
  |clear C3X
   have PQ:∃ y z l,Bx wz g [b.tick,b.next,b.wallet, .slice ax n cx,y,z,l,I0]:=by
    exact tD
   obtain ⟨yp,zp,lp,PP⟩:=PQ;have zr:=PP.fz 3 AF;have hgr:=PP.lt;have hBw:=H5.lt.2.1;have hgB:=H5.lt.1;have hul:=Q.lt;have OKS:=VR.oks;obtain ⟨L,hL⟩:∃ l,l=A6 b.chans (⟨ch,am+fe,am,fe,0,0,0⟩:Cn):=⟨_,rfl⟩;(have hins:b.chans.take k ++ ([(⟨ch,am+fe,am,fe,0,0,0⟩:Cn)] ++ b.chans.drop k)=L:=by rw [hL];exact (zE (c:=(⟨ch,am+fe,am,fe,0,0,0⟩:Cn)) hpl.out hno.out).symm);exact tC
  |have hlt:i<n:=AA;have C3Y:=trivial;exact tB):p:=h
theorem GO(h:p:=by
 refine sP hK fun hHeld => ?_;clear hK K
 first
 |clear A9G
  refine tR 11 fun K hK => ?_;go_simp;go_at_call 138
  refine (CA _ (V0.keep BA)).mono ?_;rintro e wc1 ⟨rfl,bc1⟩;have Bc1:Below w0 w0 wc1:=Below.trans BA (Below.mono bc1 BA.size);have Hc1:=H5.keep Bc1;have Pc1:=P0.keep Bc1;have Ec10:=PE.keep Bc1;have ZC:=ZA.keep bc1;obtain ⟨c1s0,c1s1,c1s2,c1s3,c1s4,c1s5⟩:=Pc1.c6
  first
  |clear A9w
   have B1O:=trivial;exact mA
  |have B1Q:=trivial;exact mB
 |clear A9l
  refine tP 20 ?_;refine tP 21 ?_;refine tP 22 ?_;refine tR 23 fun K hK => ?_;have C3Z:=trivial;exact KW
 |clear C3a
  refine tR 11 fun K hK => ?_;refine Jx D4 Tryz.underlying50 rfl dC dC (fun _=>rfl) ER rfl _ _ rfl wz (.slice a8 L1.length c8) L1 rfl o8 _ (⟨ch,am+fe,am,fe,0,0,0⟩:Cn) rfl lit N4 B8.size ?_;have C2m:=trivial;exact sj
 |clear C3b
  have C3c:=trivial;exact mi
 |clear B2Y
  refine tP 19 ?_;refine tP 20 ?_;refine tP 21 ?_;refine tR 22 fun K hK => ?_;have C3d:=trivial;exact KW
 |clear B1k
  refine tR 19 fun K hK => ?_
  first
  |clear A6z
   refine Dc D4 Tryz.underlying50 rfl dC dC (fun _=>rfl) ER rfl _ _ rfl wz (.slice a9 M.length c9) M rfl o9 _ L2 rfl (VD _ (bW) _ Nx) d8 oM B9.size ?_;have C3e:=trivial;exact gg
  |refine Dc D4 Tryz.underlying50 rfl dC dC (fun _=>rfl) ER rfl _ _ rfl wz (.slice a9 M.length c9) M rfl o9 _ L2 rfl (VD _ (bW)) d8 oM B9.size ?_;exact gg
 |clear C3f
  refine tR 17 fun K hK => ?_;refine Dc D4 Tryz.underlying50 rfl dC dC (fun _=>rfl) ER rfl _ _ rfl wz (.slice a8 L1.length c8) L1 rfl o8 _ L2 rfl (VD _ (bW) _ Nx) N4 oM B8.size ?_;intro v9 w9 o9 b9 g9;rw [HLL.out] at o9;obtain ⟨a9,c9,rfl,-⟩:=AC.of (ok:=fun _=>True) o9 (fun _ _=>trivial);have B9:Below wz wz w9:=Below.trans B8 b9;have P9:=P2.keepL B9 hPl;have p9:=P9.cell 3 _ rfl;have z9:=P9.fz 3 AF;have C3g:=trivial;exact GO
 |clear C3g
  refine tP 18 ?_;refine tP 19 ?_;refine tP 20 ?_;refine tR 21 fun K hK => ?_;exact KW
 |clear B7V
  refine tP 12 ?_;refine tP 13 ?_
  first
  |clear A7E
   refine tR 15 fun K hK => ?_;have y0:=ZC.cell 0 _ rfl;have x0:=ZC.fz 0 AF;have y1:=ZC.cell 1 _ rfl;have x1:=ZC.fz 1 AF;have y2:=ZC.cell 2 _ rfl;have x2:=ZC.fz 2 AF;have y3:=ZC.cell 3 _ rfl;have x3:=ZC.fz 3 AF;have y4:=ZC.cell 4 _ rfl;have x4:=ZC.fz 4 AF;have y5:=ZC.cell 5 _ rfl;have x5:=ZC.fz 5 AF;have y6:=ZC.cell 6 _ rfl;have x6:=ZC.fz 6 AF;have hzl:=ZC.lt;have C3h:=trivial;exact KW
  |refine tR 14 fun K hK => ?_;exact Lm
 |first
  |clear A7Q
   refine tR 8 fun K hK => ?_;have C3i:=trivial;exact TJ
  |clear B7e
   refine tR 18 fun K hK => ?_;refine Jx IM Tryz.underlying52 rfl dC dC (fun _=>rfl) I3 rfl _ _ rfl B (.slice ar nr cr) b.circles rfl (AC.alloc (w:=w7.drew) (AC.drew OR) _) _ (⟨ky,ch,tt,am,fe⟩:Ci) rfl (BC _ _ _ rfl) N1 (Nat.le_trans (show B≤w7.drew.heap.size from hBw) (Aj _ _)) ?_;have C3j:=trivial;exact Ou
  |clear B7f
   refine tR 19 fun K hK => ?_;refine Jx Hz Tryz.underlying51 rfl dC dC (fun _=>rfl) JI rfl _ _ rfl B (.slice ar nr cr) b.htlcs rfl (AC.alloc (w:=w7.drew) (AC.drew OR) _) _ (⟨ky,ch,tt,am+fv,am,rv == 2,0⟩:Ht) rfl (BC _ _ _ rfl) N1 (Nat.le_trans (show B≤w7.drew.heap.size from hBw) (Aj _ _)) ?_;exact Ou
  |clear B7A
   refine tR 11 fun K hK => ?_
   first
   |clear C3c
    refine Jx D4 Tryz.underlying50 rfl dC dC (fun _=>rfl) ER rfl _ _ rfl wz (.slice a8 L1.length c8) L1 rfl (AC.alloc o8 _) _ (⟨ch,am+fe,am,fe,0,0,0⟩:Cn) rfl (BC _ _ _ rfl) N4 (Nat.le_trans B8.size (Aj _ _)) ?_;exact sj
   |have C3k:=trivial;exact KW
  |refine tR 15 fun K hK => ?_;have C3l:=trivial;exact KW):p:=h
theorem So(h:p:=by
 go_quiet ((go_at_call 241;first | with_reducible exact Calls.quiet_of_same (Kr _ _ _ _ _ H0.out _) | with_reducible exact Calls.quiet_of_same (Kr _ _ _ _ _ H1.out _) | with_reducible exact Calls.quiet_of_same (Kr _ _ _ _ _ H2.out _) | with_reducible exact Calls.quiet_of_same (Kr _ _ _ _ _ H3.out _) | with_reducible exact Calls.quiet_of_same (Kr _ _ _ _ _ H4.out _)))
 go_wp2_with fail
 first
 |clear A7b
  have BW:Below w w (w1.drewN nq):=bW;replace c0:=(Eo w1 nq ⟨g,0,none⟩).trans c0;replace c1:=(Eo w1 nq ⟨g,1,none⟩).trans c1;replace c3:=(Eo w1 nq ⟨g,3,none⟩).trans c3;replace c4:=(Eo w1 nq ⟨g,4,none⟩).trans c4;replace c5:=(Eo w1 nq ⟨g,5,none⟩).trans c5;replace d0:=(Eo w1 nq ⟨w,0,none⟩).trans d0;replace d1:=(Eo w1 nq ⟨w,1,none⟩).trans d1;replace d2:=(Eo w1 nq ⟨w,2,none⟩).trans d2;replace d3:=(Eo w1 nq ⟨w,3,none⟩).trans d3;replace d4:=(Eo w1 nq ⟨w,4,none⟩).trans d4;replace d5:=(Eo w1 nq ⟨w,5,none⟩).trans d5;replace d6:=(Eo w1 nq ⟨w,6,none⟩).trans d6;clear b1 B1 hc0 hf0 hs0 hz0 c2;generalize w1.drewN nq=W at *;exact So
 |go_ret;exact ⟨R7,bW⟩):p:=h
theorem tE(h:p:=by
 have FK:=F2.1.keep (Below.drew (Below.refl _ _))
 have hdo:({b with chans:=AU (AU b.chans ch (fun c=>({c with base:=am}:Cn))) ch (fun c=>({c with ppm:=fe}:Cn))}:Bk)=(Al b ⟨4,ky,ch,tt,am,fe,ys⟩).1:=by
  show _=({b with chans:=AU b.chans ch fun c=>{c with base:=am,ppm:=fe}}:Bk);rw [A0E (l:=b.chans) (ch:=ch) (f:=fun c=>({c with base:=am}:Cn)) (h:=fun c=>({c with ppm:=fe}:Cn)) (fun _=>rfl)]
 first
 |clear C3m
  clear A2 F2 hm2 hi;go_upto_region 25 with fail
  refine wp_region_noPanic ?_;refine wp_region_held_drew (S:=fun w'=>w'.cell? ⟨g,3,none⟩=some (.slice (some ⟨gx,0,none⟩) n1 c1)∧w'.cell? ⟨ue,5,none⟩=.some fe) kR ?_ (fun hHeld => ?_)
  ·exact Bc
  exact Gt
 |have e4:=PE.cell 4 _ rfl;have e5:=PE.cell 5 _ rfl;clear AT A2 F1 F2 hm2 hi aid hget hh hgF;have C3O:=trivial;exact gK):p:=h
theorem Ij(h:p:=by
 obtain ⟨w7,hw7⟩:∃ x,x=wc:=⟨_,rfl⟩;subst hw7
 first
 |clear C3n
  have H5:=H5.keep b6;have W6:Wf g F F wf w7:=Wf.of_below b6;have C3o:=trivial;exact MA
 |clear C3p
  have H5:=H5.keep hB;have WX:=WX.trans (Wf.of_below hB);have PE:=PE.keep hB;clear VQ PQ pq p3 c2 hul hgl hB;have c2:=PE.cell 2 _ rfl;have c4:=PE.cell 4 _ rfl;have c5:=PE.cell 5 _ rfl;have hwr1:IntKind.i64.wrap (am+fe)=am+fe:=Ao;go_upto_region 8 with fail
  refine cW fun wz Q b8 => ?_;obtain ⟨uc,huc⟩:∃ u,u=w7.heap.size:=⟨_,rfl⟩;rw [← huc] at Q ⊢;have nQ:=H5.fresh;rw [← huc] at nQ;have PE:=PE.keep b8;have H5:=H5.keep b8;have WX:=WX.trans (Wf.of_below b8);clear c2 c4 c5 b8 huc;have C3X:=trivial;exact sk
 |clear B5S
  obtain ⟨PE,nE⟩:=W6.box PE nE;have WX:=WX.trans W6;clear c4 tf W6 P4;rw [show AG (decide (b.wallet<am)) 4 k1=cd by rw [HCODE.out,HK1.out]] at H5;have C3q:=trivial;exact oL
 |clear A9U
  obtain ⟨PB,nB⟩:=W7.box PB nB;have C3D:=trivial;exact TD
 |clear C3r
  obtain ⟨F',FK,FW⟩:=HR w7 (.slice a L.length c) L (Ex.of_below hBL _) (AC.le hoL KN) (fun k hk=>Or.inr (Cj hoL k hk).1) HOKS.out;have P7:=PV.keep hBL;have p3:=P7.cell 3 _ rfl;have z3:=P7.fz 3 AF;clear hQ hun ho hB hul HR VR VV hKK hKl;go_upto_region 17 with fail
  obtain ⟨PE',nE'⟩:=FW.box PE nE;have WX':=WX.trans FW;generalize w7.setCell ⟨g,3,none⟩ (.slice a L.length c)=w8 at FK FW PE' WX' ⊢;clear P7 p3 z3 hoL hBL H5 PE nE WX PV FW;have B8v:=trivial;exact PC
 |clear A6W
  exact TD
 |clear B04
  have C3s:=trivial;exact MA
 |have WX:=WX.trans W2;obtain ⟨PE,nE⟩:=W2.box PE nE
  first
  |clear B4q
   clear CA CB H0 V0 W2 P0 ds0 ds1 ds2 ds3 ds4 ds5 due2 due3 due4 dk0 dk1 BD HD PD D7 DF D_ue;by_cases h0:cd=0;rotate_left
   ·exact ng
   have hcA:=HC2.out.symm;rw [h0] at hcA;obtain ⟨r11,hcB⟩:=Bg hcA dC;obtain ⟨r12,hcC⟩:=Bg hcB dC;obtain ⟨r10,-⟩:=Bg hcC dC;have r11:=of_decide_eq_false r11;have r12:=of_decide_eq_false r12;(obtain rfl:okv=true:=by rw [HOK.out,r10];rfl);have r10:=of_decide_eq_false r10;obtain rfl:sv=am+fe:=HSV.out rfl;clear hcA hcB hcC HC2 HSV HOK;subst h0;have e8:((0:Int) != 0)=false:=rfl;(go_upto_region 4 with fail);obtain ⟨ar,nr,cr,pr,hnr,hncr,OR,VR,HR⟩:=H5.ci;obtain ⟨yp,zp,lp,PP,-,-⟩:=H5.cells;have B7T:=trivial;exact kA
  |clear H0 V0 W2 P0 UA UD p7 f7 e4 ua3 ud2;have h0:=HCP.out
   first
   |clear A7X
    exact ng
   |have hcA:=HC3.out.symm;rw [h0] at hcA;obtain ⟨r13,hcB⟩:=Bg hcA dC;obtain ⟨r12,hcC⟩:=Bg hcB dC;obtain ⟨r11,hcD⟩:=Bg hcC dC;obtain ⟨r10,-⟩:=Bg hcD dC;have B5e:=trivial;exact pg):p:=h
theorem KC(h:p:=by
 rintro e w' ⟨⟨u,rfl,h⟩,hb⟩;exact ⟨⟨_,u,rfl,RwO.mk' h V0.oks⟩,hb⟩):p:=h
theorem Yt(h:p:=by
 go_enter Tryz.func150,Tryz.ntmps150
 go_wp2_with (((go_at_call 233;refine (BP _ _).mono ?_);rintro e w1 ⟨rfl,rfl⟩))
 first
 |clear A2X
  all_goals
   go_ret2
   exact ⟨rfl,rfl⟩
 |go_ret2;exact ⟨rfl,rfl⟩):p:=h
theorem JZ(h:p:=by
 obtain ⟨k,hk,rfl,hall,hB⟩:=hrel;have hBw:=AD hB B0
 first
 |clear C3t
  have PX:=P0.keep hB;have p4:=PX.cell 4 _ rfl;clear hB2 p5;by_cases hlt:k<q
  ·have C3u:=trivial;exact Pc
  have hallC:Hid (b.circles.all (D0 b.chans)=true):=dF;have hund:Hid (Bv b=Fb (A1 b)):=by unfold Hid Bv;rw [hallH.out,hallC.out];rfl
  have hIok:∀ j∈A1 b,AE j:=fun j hj=>by
   exact qB
  have HI:=lH hIok;have CK:=WA _ _ _ b wr (V0.keep hB) EL KG;clear hall hallC hIok;obtain ⟨p0,p1,p2,p3,p4,p5⟩:=PX.c6;go_wp2_with fail
  refine CK.mono ?_;rintro e w3 ⟨⟨v3,rfl,O3⟩,b3⟩;obtain ⟨KK,hKK⟩:∃ l,l=A1 b:=⟨_,rfl⟩;rw [← hKK] at O3 hund;obtain ⟨ao,co,rfl⟩:=Ds.form O3;have VK:Cm w3 w3 (.slice ao KK.length co) KK:=AC.vs (fun _=>rfl) O3 (by rw [hKK];exact HI.out);have hBw:=AD b3 hBw;have hKl:KK.length≤80:=by rw [hKK];unfold A1;rw [List.length_append,List.length_map,List.length_map,HM.out,HQ.out];omega
  exact sg
 |clear C1L
  have PX:=P0.keep hB;by_cases hlt:k<m
  ·have C3v:=trivial;exact In
  have hallH:Hid (b.htlcs.all (Dy b.chans)=true):=dD;have p5:=PX.cell 5 _ rfl;obtain ⟨w2,hw2⟩:∃ w2,w2=wr:=⟨_,rfl⟩;subst hw2;have hB2:=hB;clear hall hB hBw PX p4;go_wp2;go_loopw [6,58] (fun _ i wr=>∃ k:Nat,k≤q∧i=k∧Hid ((b.circles.take k).all (D0 b.chans)=true)∧Below w0 w0 wr) (fun _ i _=>q - (intOf i).toNat)
  case atStart=>exact ⟨0,Nat.zero_le _,rfl,rfl,hB2⟩
  case round =>
   have C3t:=trivial;exact JZ
 |clear C09
  by_cases hlt:k<m;rotate_left
  ·have hres:Hid (Fc b.htlcs key = -1):=Ui dg;exact PW
  have C3w:=trivial;exact In
 |clear C1B
  by_cases hlt:k<q;rotate_left
  ·have hres:Hid (Fe b.circles key = -1):=Ye (by have:=hall.out;rwa [show k=q from AA,List.take_of_length_le (l:=b.circles) KG] at this);exact PW
  have C3x:=trivial;exact Pc
 |clear A9s
  by_cases hlt:k<m
  ·exact A8t
  have hA:Hid (b.htlcs.all (fun y => !decide (y.inn=ch∨y.out=ch))=true):=dg;have p5:=(P0.keep hB).cell 5 _ rfl;clear hall;go_wp2;go_loopw [8,30] (fun _ i wr=>∃ k:Nat,k≤q∧i=k∧Hid ((b.circles.take k).all (fun y => !decide (y.frm=ch∨y.tw=ch))=true)∧Below w0 w0 wr) (fun _ i _=>q - (intOf i).toNat)
  case atStart=>exact ⟨0,Nat.zero_le _,rfl,rfl,hB⟩
  case round =>
   exact A74
 |by_cases hlt:k<n;rotate_left
  ·have hres:Hid (D9 b.chans ch = -1):=VM A5I;exact PW
  obtain ⟨g,off,x,rfl,hg,-,⟨c0,c1,c2,c3,c4,c5,c6⟩,hx,ht⟩:=Bz.at_ (V0.keep hB).chans hlt
  first
  |clear C1N
   exact lP
  |have p3:=(P0.keep hB).cell 3 _ rfl;exact lP):p:=h
theorem Kb(h:p:=by
 have c3:=PE.cell 3 _ rfl;have c4:=PE.cell 4 _ rfl
 first
 |clear B81
  have hwr6:IntKind.i64.wrap (-am) = -am:=Ao;obtain ⟨hg,LI⟩:=LsIn.add LI (x:=⟨6,tt,-am⟩) sM Cq uL sM;go_wp2_with fail
  refine (DJ _ _ g B _ _ 0 6 tt (-am) _ H5 hg).mono ?_;have C3y:=trivial;exact lV
 |clear C0J
  obtain ⟨hg,LI⟩:=LsIn.add LI (x:=⟨6,tt,-am⟩) sM Cq uL sM;go_wp2_with fail
  refine (DK _ _ g B _ _ 0 6 tt (-am) _ H5 hg).mono ?_;exact lV
 |clear C3z
  obtain ⟨hg,LI⟩:=LsIn.add LI (x:=⟨8,tt,am⟩) sM Cq uL sM;go_wp2_with fail
  first
  |clear C3y
   refine (DJ _ _ g B _ _ 0 8 tt (am) _ H5 hg).mono ?_;have C30:=trivial;exact TV
  |refine (DK _ _ g B _ _ 0 8 tt (am) _ H5 hg).mono ?_;exact TV
 |clear C0L
  have hwr2:IntKind.i64.wrap (-am) = -am:=Ao;go_wp2_with fail
  refine (Eu _ _ g B _ [] 0 tt (0) (-am) _ H5 hc2' (D6 (fun _=>rfl) hso) FT FT).mono ?_;have C0I:=trivial;exact pN
 |clear C0M
  have hwr8:IntKind.i64.wrap (-am) = -am:=Ao;go_wp2_with fail
  refine (Eu _ _ g B _ [] 0 tt (-am) (0) _ H5 hc2' (D6 (fun _=>rfl) hso) FT FT).mono ?_;exact pN
 |first
  |clear B28
   first
   |clear B7S
    clear hL hoks OKS hnr hown pr hin;go_cut [] (fun wq=>∃ F',Wk F' (.slice (some ⟨gx,0,none⟩) n cx) wq g B {b with htlcs:=L} [] 0∧Wf g F F' w7 wq)
    case first =>
     refine wp_region_noPanic ?_;refine II (S:=fun w'=>w'.cell? ⟨g,4,none⟩=some (.slice ar nr cr)∧w'.cell? ⟨ue,1,none⟩=.some ky∧w'.cell? ⟨ue,2,none⟩=.some ch∧w'.cell? ⟨ue,3,none⟩=.some tt∧w'.cell? ⟨ue,4,none⟩=.some am) (last:=23) kR ?_ (fun hHeld => ?_)
     ·exact Bc
     exact iv
    case rest =>
     have C2R:=trivial;exact PI
   |have c5:=PE.cell 5 _ rfl;clear hL hoks OKS hnr hown pr hin;go_cut [] (fun wq=>∃ F',Wk F' (.slice (some ⟨gx,0,none⟩) n cx) wq g B {b with circles:=L} [] 0∧Wf g F F' w7 wq)
    case first =>
     refine wp_region_noPanic ?_;refine II (S:=fun w'=>w'.cell? ⟨g,5,none⟩=some (.slice ar nr cr)∧w'.cell? ⟨ue,1,none⟩=.some ky∧w'.cell? ⟨ue,2,none⟩=.some ch∧w'.cell? ⟨ue,3,none⟩=.some tt∧w'.cell? ⟨ue,4,none⟩=.some am∧w'.cell? ⟨ue,5,none⟩=.some fe) (last:=22) kR ?_ (fun hHeld => ?_)
     ·exact Bc
     have B7d:=trivial;exact iv
    case rest =>
     have C2P:=trivial;exact PI
  |clear C31
   obtain ⟨ar,nr,cr,pr,hnr,hncr,OR,VR,HR⟩:=H5.ht;obtain ⟨yp,zp,lp,PP,-,-⟩:=H5.cells;have zr:=PP.fz 4 AF;exact j7
  |have c5:=PE.cell 5 _ rfl
   first
   |clear C3T
    obtain ⟨ar,nr,cr,pr,hnr,hncr,OR,VR,HR⟩:=H5.ci;obtain ⟨yp,zp,lp,PP,-,-⟩:=H5.cells;have zr:=PP.fz 5 AF;exact kA
   |have c6:=PE.cell 6 _ rfl;have C32:=trivial;exact sS):p:=h
theorem MG(h:p:=by
 obtain ⟨PE,nE⟩:=W6.box PE nE;have WX:=WX.trans W6
 first
 |clear C33
  obtain ⟨Q,nQ⟩:=W6.box Q nQ;clear H6 W6;have B29:=trivial;exact nw
 |clear C34
  clear H5 W6 b78 CAL pq PQ u0 u1 u2 u3 u4 u5 u6 v0 v1 v2 v3 v4 v5 v6 c0 c1 c2 c3 c4 c5 c6 hHB;go_wp2_with fail
  refine (D5 F _ g B b [] 0 13 _ _ H6).mono ?_;rintro e w9 ⟨rfl,H5,W6⟩;have C35:=trivial;exact MG
 |clear C35
  clear H6 W6;rw [show (rv == 0)=decide (rv=0) from rfl,← HCD0.out] at H5;obtain ⟨w7,hw7⟩:∃ x,x=w9:=⟨_,rfl⟩;rw [← hw7] at H5 WX PE ⊢;clear hw7;obtain ⟨yq,zq,lq,PQ,-,-⟩:=H5.cells;have pq:=PQ.cell 7 _ rfl;by_cases hr0:rv=0
  ·(have hcd13:Hid (cd=13):=by unfold Hid;rw [HCD0.out,decide_eq_true hr0];rfl);(have e9:(cd != 0)=true:=by rw [hcd13.out];rfl);clear hr0;have C0o:=trivial;exact Ie
  have hcd0:cd=0:=by rw [HCD0.out,decide_eq_false hr0];rfl
  clear HCD0 HCD;subst hcd0;have e9:((0:Int) != 0)=false:=rfl;have C31:=trivial;exact Oj
 |clear B8M
  first
  |clear C1O
   clear W6;obtain ⟨k5,hk5⟩:∃ k:Int,k=AG (!(fb && okv)) 10 k4:=⟨_,rfl⟩;rw [← hk5] at H5;have HK5:=lH hk5;clear hk5;have tf:=T1.cell H5 3 _ rfl;(go_wp2_with fail);refine (D5 F _ g B b [] _ 11 _ _ H5).mono ?_;have C36:=trivial;exact me
  |clear C3o
   clear c4 t4 t5 W6 b6 CF;have c4:=PE.cell 4 _ rfl;(go_wp2_with fail);refine (ML am fv _).mono ?_;exact fB
  |clear C3s
   clear c4 tf W6
   first
   |clear C3H
    obtain ⟨k7,hk7⟩:∃ k:Int,k=AG (decide (D.rem<am)) 11 k6:=⟨_,rfl⟩;rw [← hk7] at H5;have HK7:=lH hk7;clear hk7
    have hk7:k7=cd:=by
     rw [HCODE.out,HK7.out,HK6.out,HK5.out,HK4.out,HK3.out,HK2.out,HK1.out,Px _ _ _ _ dC];rcases HSV.out with ⟨rfl,rfl,hs⟩ | ⟨rfl,rfl,hs⟩
     ·rw [decide_eq_false (show ¬ 1125899906842624<am+fe by omega)];rfl
     rw [decide_eq_true (show 1125899906842624<am+fe by omega)];have hz:=Yh (c:=10) dC (AG (decide (20≤b.circles.length)) 14 (AG (!(AI b.chans ch && AI b.chans tt)) 6 (AG q9 9 0)));show AG _ 11 (AG _ 12 (AG true 10 _))=AG _ 11 (AG _ 12 (AG true 10 _));exact sm
    by_cases h0:cd=0;rotate_left
    ·(have e7:(k7 != 0)=true:=by rw [hk7];simp [h0]);obtain ⟨yq,zq,lq,PQ,-,-⟩:=H5.cells;have pq:=PQ.cell 7 _ rfl;have C0m:=trivial;exact Ie
    have hcA:=HCODE.out.symm;rw [h0] at hcA;obtain ⟨r11,hcB⟩:=Bg hcA dC;obtain ⟨r12,hcC⟩:=Bg hcB dC;obtain ⟨r10,hcD⟩:=Bg hcC dC;obtain ⟨r14,hcE⟩:=Bg hcD dC;obtain ⟨r6,hcF⟩:=Bg hcE dC;clear hcA hcB hcC hcD hcE hcF;have r11:=of_decide_eq_false r11;have r12:=of_decide_eq_false r12;have r10:=of_decide_eq_false r10
    obtain ⟨rfl,rfl⟩:okv=true∧sv=am+fe:=by
     rcases HSV.out with ⟨h1,h2,-⟩ | ⟨-,-,h3⟩
     ·exact ⟨h1,h2⟩
     exact absurd h3 r10
    rw [hk7,h0] at H5;clear r14 HK1 HK2 HK3 HK4 HK5 HK6 HK7 HCODE HSV;have C3S:=trivial;exact jj
   |obtain ⟨k7,hk7⟩:∃ k:Int,k=AG (decide (D.loc<am)) 12 k6:=⟨_,rfl⟩;rw [← hk7] at H5;have HK7:=lH hk7;clear hk7;obtain ⟨rv,hrv⟩:∃ r,r=ED b A D tt am ys:=⟨_,rfl⟩
    have hcd:cd=AG (decide (rv=0)) 13 k7:=by
     rw [HCODE.out,HK7.out,HK6.out,HK5.out,HK4.out,HK3.out,HK2.out,HK1.out,Px _ _ _ _ dC,← hrv];rw [← HFV.out,← HFB.out];rcases HSV.out with ⟨rfl,rfl,hs⟩ | ⟨rfl,rfl,hs⟩
     ·rw [hs]
     rw [hs,Bool.and_false];have hz:=Yh (c:=10) dC (AG (decide (60≤b.htlcs.length)) 14 (AG (!(AI b.chans ch && AI b.chans tt)) 6 (AG q9 9 0)));show AG _ 13 (AG _ 12 (AG _ 11 (AG true 10 _)))=AG _ 13 (AG _ 12 (AG _ 11 (AG true 10 _)));exact sm
    have HCD:=lH hcd;have HRV:=lH hrv;clear hcd hrv;have c0:=PE.cell 0 _ rfl;by_cases h0:k7=0;rotate_left
    ·(have hcd:k7=cd:=by rw [HCD.out,Jm _ _ _ h0]);(have e6:(k7 == 0)=false:=by rw [beq_eq_false_iff_ne];exact h0);have e7:(k7 != 0)=true:=A8;obtain ⟨yq,zq,lq,PQ,-,-⟩:=H5.cells;have pq:=PQ.cell 7 _ rfl;have HCX:=lH hcd;clear hcd;have C0n:=trivial;exact Ie
    have hcA:=HK7.out.symm;rw [h0] at hcA;obtain ⟨r12,hcB⟩:=Bg hcA dC;rw [HK6.out] at hcB;obtain ⟨r11,hcC⟩:=Bg hcB dC;rw [HK5.out] at hcC;obtain ⟨r10,hcD⟩:=Bg hcC dC;rw [HK4.out] at hcD;obtain ⟨r14,hcE⟩:=Bg hcD dC;rw [HK3.out,HK2.out,Px _ _ _ _ dC] at hcE;obtain ⟨r6,hcF⟩:=Bg hcE dC;clear hcA hcB hcC hcD hcE hcF;exact pg
  |clear B46
   clear pf P4 H4 W6 h14 HNF
   first
   |clear B7G
    obtain ⟨k4,hk4⟩:∃ k:Int,k=AG (decide (20≤b.circles.length)) 14 k3:=⟨_,rfl⟩;rw [← hk4] at H5;have HK4:=lH hk4;clear hk4;have c4:=PE.cell 4 _ rfl;have c5:=PE.cell 5 _ rfl;(go_wp2_with fail);refine (ML am fe _).mono ?_;rintro e wA ⟨he,rfl⟩
    obtain ⟨sv,okv,rfl,hsv⟩:∃ sv okv,e = .returned (.tuple #[.int .i64 sv, .bool okv])∧((okv=true∧sv=am+fe∧am+fe≤1125899906842624)∨(okv=false∧sv=0∧1125899906842624<am+fe)):=by
     by_cases hs:am+fe≤1125899906842624
     ·rw [if_pos KL] at he;exact ⟨_,_,he,Or.inl ⟨rfl,rfl,hs⟩⟩
     rw [if_neg KL] at he;exact ⟨_,_,he,Or.inr ⟨rfl,rfl,AA⟩⟩
    have HSV:=lH hsv;clear he c4 c5 hsv;(go_wp2_with fail);refine (D5 F _ g B b [] _ 10 _ _ H5).mono ?_;exact mf
   |obtain ⟨k4,hk4⟩:∃ k:Int,k=AG (decide (60≤b.htlcs.length)) 14 k3:=⟨_,rfl⟩;rw [← hk4] at H5;have HK4:=lH hk4;clear hk4;have c4:=PE.cell 4 _ rfl;have t4:=T2.cell H5 4 _ rfl;have t5:=T2.cell H5 5 _ rfl;(go_upto_region 5 with fail);obtain ⟨wf,hwf⟩:∃ x,x=w6:=⟨_,rfl⟩;rw [← hwf] at H5 WX T1 T2 PE c4 t4 t5 ⊢;clear hwf;go_cut [6,7] (fun u v wq=>u=fv∧v=fb∧Below wf wf wq)
    case first =>
     go_region_held3 (fun w'=>w'.cell? ⟨p2,o2+4,none⟩=.some D.base∧w'.cell? ⟨p2,o2+5,none⟩=.some D.ppm∧w'.cell? ⟨ue,4,none⟩=.some am) (go_keep) (first
      | (go_at_call 263;refine (CF _).mono ?_;rintro e w6 ⟨rfl,b6⟩;have b06:Below wf wf w6:=(bW);have d4:=BN b06 c4;have d5:=BN b06 t4;have d6:=BN b06 t5))
     all_goals
      go_wp2_with fail
      go_meet
      case rel=>exact ⟨rfl,rfl,bW⟩
    case rest =>
     obtain ⟨rfl,rfl,b6⟩:=hcut;have C3n:=trivial;exact Ij
  |first
   |clear B16
    clear tf H5 W6;have H5:=H6;clear H6
    first
    |clear C36
     obtain ⟨k6,hk6⟩:∃ k:Int,k=AG (decide (A.rem<sv)) 11 k5:=⟨_,rfl⟩;rw [← hk6] at H5;have HK6:=lH hk6;clear hk6;have c4:=PE.cell 4 _ rfl;have tf:=T2.cell H5 2 _ rfl;(go_upto_region 9 with fail);have C3G:=trivial;exact sx
    |obtain ⟨k6,hk6⟩:∃ k:Int,k=AG (decide (A.loc<sv)) 12 k5:=⟨_,rfl⟩;rw [← hk6] at H5;have HK6:=lH hk6;clear hk6;have c4:=PE.cell 4 _ rfl;have tf:=T2.cell H5 3 _ rfl;(go_upto_region 8 with fail);exact sx
   |clear  H5 W6;have H5:=H6;clear H6;obtain ⟨k5,hk5⟩:∃ k:Int,k=AG (!okv) 10 k4:=⟨_,rfl⟩;rw [← hk5] at H5;have HK5:=lH hk5;clear hk5;have tf:=T1.cell H5 2 _ rfl;(go_wp2_with fail);refine (D5 F _ g B b [] _ 12 _ _ H5).mono ?_;exact me
 |clear H6 W6
  first
  |clear C37
   have C38:=trivial;exact jn
  |clear C2S
   first
   |clear B6c
    clear pq PQ c1 c2 c3 c4 c5;have AT:=H5.at ai aid hso;have cA:_=some (Value.int IntKind.i64 (A.loc)):=AT.1 2 _ rfl;have zA:=AT.2.1 (ia*7+2);have hwr1:IntKind.i64.wrap (A.loc - (am+fe))=A.loc - (am+fe):=Ao;have FIN:=AT.2.2 2 (.int .i64 (A.loc - (am+fe))) (AO (-(am+fe)) 0) dC N2 (EG aok uI uI);have B7J:=trivial;exact qs
   |clear pq PQ c1 c2 c3 c4;have AT:=H5.at ai aid hso;have cA:_=some (Value.int IntKind.i64 (A.rem)):=AT.1 3 _ rfl;have zA:=AT.2.1 (ia*7+3);have hwr4:IntKind.i64.wrap (A.rem - (am+fv))=A.rem - (am+fv):=Ao;have FIN:=AT.2.2 3 (.int .i64 (A.rem - (am+fv))) (AO 0 (-(am+fv))) dC N2 (EG aok uI uI);exact qs
  |have c2:=PE.cell 2 _ rfl
   first
   |clear C2Q
    have hwr1:IntKind.i64.wrap (-(am+fe)) = -(am+fe):=Ao;(go_wp2_with fail);refine (Eu _ _ g B _ [] 0 ch (-(am+fe)) (0) _ H5 hc1 hso OB OB).mono ?_;have C0K:=trivial;exact T0
   |have hwr7:IntKind.i64.wrap (-(am+fv)) = -(am+fv):=Ao;(go_wp2_with fail);refine (Eu _ _ g B _ [] 0 ch (0) (-(am+fv)) _ H5 hc1 hso OB OB).mono ?_;exact T0):p:=h
theorem Nh(h:p:=by
 obtain ⟨F0,G,y,z,l,rfl,P,K,O,hd,h1,h2⟩:=h;obtain ⟨G0,G1,G2,⟨a0,a1,a2⟩,e,hn,hint⟩:=K
 first
 |clear A4P
  have hG0:G0 = [gx]:=by rw [a0.F];rfl
  subst hG0;subst e;have hg:=(a0.lt gx sM).1;have ex:Ex [gx] w (w.setCell ⟨gx,i*7+f,none⟩ u):=Ex.setCell (Ex.refl _ _) sM _;have hnd:=hd;simp only [List.cons_append,List.nil_append,List.nodup_cons,List.mem_append,not_or] at hnd;obtain ⟨⟨⟨hn1,hn2⟩,hn3⟩,-⟩:=hnd;have ne:∀ {H:List Nat},gx∉H→∀ k∈H,k ∉ [gx]:=fun hH k hk hm=>hH Rc;refine ⟨⟨([gx] ++ G1) ++ G2,G,y,z,l,rfl,P.ex ex (fun e=>h1 (by simp at e;simp [e])),⟨[gx],G1,G2,⟨⟨a0.own.setAt (fun _=>rfl) hi hf he,?_,a0.F⟩,a1.kept ex (ne hn1),a2.kept ex (ne hn2)⟩,rfl,hn,hint⟩,O.kept ex (ne hn3),hd,h1,?_⟩,⟨ex.more (fun k hk => ?_),fun k hk=>Or.inl hk⟩⟩
  ·intro y hy;rcases List.mem_or_eq_of_mem_set hy with h | rfl
   ·exact a0.ok y h
   exact hok
  ·simpa using h2
  simp at hk;simp [hk]
 |clear A4S
  have hn:n=b.chans.length:=by
   rcases a0.own.2 with ⟨h1,_⟩ | ⟨g',cap',cur,h1,_⟩
   ·simp at h1
   injection h1
  subst hn;exact World.ownsRow.frozenAt a0.own j
 |clear A4U
  have hlt:=(List.getElem?_eq_some_iff.1 hi).1;have V:DC w w y b.htlcs:=a1.vw (fun _=>rfl);have O1:=a1.own;rcases O1.2 with ⟨rfl,hz⟩ | ⟨gy,cap,cur,rfl,_,_,hle,_⟩
  ·exfalso;obtain ⟨a',n',c',e',-,-,Fs⟩:=V
   injection e' with _ e2 _
   (have:=Fs.1);omega
  have hG1:G1 = [gy]:=by rw [a1.F];rfl
  subst hG1;subst e;have hgg:=a1.lt gy sM;obtain ⟨a',n',c',e',-,-,Fs⟩:=V
  injection e' with e1 e2 e3
  subst e1;subst e2;subst e3;obtain ⟨bb,off,e4,_,hc⟩:=Fs.2.2.2 i a hi;obtain ⟨rfl,rfl⟩:gy=bb∧0=off:=by simpa using e4
  have hnd:=hd;simp only [List.append_assoc,List.cons_append,List.nil_append] at hnd;have hx1:gy∉G0:=fun hm=>by have:=List.nodup_append.1 hnd;exact this.2.2 gy hm gy sM rfl
  have hx2:gy∉G2:=fun hm=>by have:=(List.nodup_append.1 hnd).2.1;simp only [List.nodup_cons,List.mem_append,not_or] at this;exact this.1.1 hm
  have hx3:gy∉G:=fun hm=>by have:=(List.nodup_append.1 hnd).2.1;simp only [List.nodup_cons,List.mem_append,not_or] at this;exact this.1.2 hm
  have ne:∀ {H:List Nat},gy∉H→∀ k∈H,k ∉ [gy]:=fun hH k hk hm=>hH Rc;refine ⟨gy,_,cap,P.cell 4 _ rfl,rfl,hle,hgg.2,fun j v hv=>by have:=hc j v hv;rwa [Nat.zero_add] at this,fun j=>World.ownsRow.frozenAt O1 j,fun f a2' u hf he hok => ?_⟩;have ex:Ex [gy] w (w.setCell ⟨gy,i*7+f,none⟩ u):=Ex.setCell (Ex.refl _ _) sM _;refine ⟨⟨(G0 ++ [gy]) ++ G2,G,_,z,l,rfl,P.ex ex (fun e=>h1 (by simp at e;simp [e])),⟨G0,[gy],G2,⟨a0.kept ex (ne hx1),⟨O1.setAt (fun _=>rfl) hi hf he,?_,rfl⟩,a2.kept ex (ne hx2)⟩,rfl,hn,hint⟩,O.kept ex (ne hx3),hd,h1,?_⟩,⟨ex.more (fun k hk => ?_),fun k hk=>Or.inl hk⟩⟩
  ·intro y hy;rcases List.mem_or_eq_of_mem_set hy with h | rfl
   ·exact a1.ok y h
   exact hok
  ·simpa using h2
  simp at hk;simp [hk]
 |first
  |clear A4X
   have V:Bz w w x b.chans:=a0.vw (fun _=>rfl);obtain ⟨a,n,c,hv,hle,-⟩:=id V
   have hln:b.chans.length=n:=by
    exact T9
   subst hv;have hGG:G0=(Value.slice a n c).ownBlock.toList:=a0.F;subst e;refine ⟨a,n,c,rfl,P.cell 3 _ rfl,hln,hle,a0.own,V,fun w' v' L hx hr hfr hok => ?_⟩;rw [← hGG] at hx hfr;have hsz:=hx.size;have hnd:=hd;have ex:Ex [g] w' (w'.setCell ⟨g,3,none⟩ v'):=Ex.setCell (Ex.refl _ _) sM _;have C39:=trivial;exact UU
  |clear A7p
   have V:DA w w z b.circles:=a2.vw (fun _=>rfl);obtain ⟨a,n,c,hv,hle,-⟩:=id V
   have hln:b.circles.length=n:=by
    exact T9
   subst hv;have hGG:G2=(Value.slice a n c).ownBlock.toList:=a2.F;subst e;refine ⟨a,n,c,P.cell 5 _ rfl,hln,hle,a2.own,V,fun w' v' L hx hr hfr hok => ?_⟩;rw [← hGG] at hx hfr;have hsz:=hx.size;have hnd:=hd;have ex:Ex [g] w' (w'.setCell ⟨g,5,none⟩ v'):=Ex.setCell (Ex.refl _ _) sM _;have C4A:=trivial;exact UU
  |have V:DC w w y b.htlcs:=a1.vw (fun _=>rfl);obtain ⟨a,n,c,hv,hle,-⟩:=id V
   have hln:b.htlcs.length=n:=by
    exact T9
   subst hv;have hGG:G1=(Value.slice a n c).ownBlock.toList:=a1.F;subst e;refine ⟨a,n,c,P.cell 4 _ rfl,hln,hle,a1.own,V,fun w' v' L hx hr hfr hok => ?_⟩;rw [← hGG] at hx hfr;have hsz:=hx.size;have hnd:=hd;have ex:Ex [g] w' (w'.setCell ⟨g,4,none⟩ v'):=Ex.setCell (Ex.refl _ _) sM _;exact UU):p:=h
theorem Qu(h:p:=by
 have:7≤rest.length:=AA
 match rest,this with
 | y0 :: y1 :: y2 :: y3 :: y4 :: y5 :: y6 :: r',_=>exact ⟨y0,y1,y2,y3,y4,y5,y6,r',rfl⟩):p:=h
theorem MC(h:p:=by
 rintro e w9 ⟨rfl,F9,H9,W9⟩;obtain ⟨PE,nE⟩:=W9.box PE nE
 first
 |clear B5G
  have C1r:=trivial;exact KV
 |clear B8L
  have H5:=H9;have WX:=WX.trans W9
  first
  |clear B9U
   clear H9 W9 hg c2 c4;exact rQ
  |clear B9V
   clear H9 W9 hg c2 c4;go_wp2;(go_end0);rw [Gb,Gy] at H5
   ·exact pu
   all_goals simp
  |clear B5p
   clear H9 W9 hg c4
   first
   |clear C2d
    exact rP
   |clear B0p
    have c4:=PE.cell 4 _ rfl;have hwr1:IntKind.i64.wrap (-am) = -am:=Ao;obtain ⟨hg,LI⟩:=LsIn.add LI (x:=⟨2,0,-am⟩) sM Cq uL sM;go_wp2_with fail
    first
    |clear B9v
     refine (DJ _ _ g B0 _ _ 0 2 0 (-am) _ H5 hg).mono ?_;have C4B:=trivial;exact Lx
    |refine (DK _ _ g B0 _ _ 0 2 0 (-am) _ H5 hg).mono ?_;exact Lx
   |go_wp2
    first
    |clear C2e
     (go_end0);rw [Gb,ws] at H5
     ·exact pu
     all_goals simp
    |go_meet
     first
     |clear C4B
      case rel =>
       rw [Gb,Gy] at H5
       ·exact (show Dn _ _ _ _ _ _ _ from ⟨_,_,_,_,by rw [HC1.out];exact H5,WX,fun _=>⟨rfl,rfl⟩⟩)
       all_goals simp
     |case rel =>
       rw [Gb,Gy] at H5
       ·exact (show Dn _ _ _ _ _ _ _ from ⟨_,_,_,_,by rw [HC2.out];exact H5,WX,fun _=>⟨rfl,rfl⟩⟩)
       all_goals simp
  |clear B6z
   clear H9 W9 hg c3 c4
   first
   |clear B0n
    have C3z:=trivial;exact Kb
   |go_wp2;(go_end0);rw [Gb,Gy] at H5
    first
    |clear C30
     ·have C1P:=trivial;exact sT
     all_goals simp
    |·exact sT
     all_goals simp
  |clear H9 W9 hg c2
   first
   |clear B0L
    go_wp2;(go_end0);rw [Gb,Gy] at H5
    ·refine ⟨rfl,_,_,_,_,H5,WX,?_⟩;(try intro _);have hdo:Al b ⟨9,ky,ch,tt,am,fe,ys⟩=({b with circles:=b.circles ++ [⟨ky,ch,tt,am,fe⟩],chans:=AU (AU b.chans ch (AO (-(am+fe)) 0)) tt (AO 0 (-am))},BL [⟨6,ch,-(am+fe)⟩,⟨8,ch,am+fe⟩]):=rfl;rw [hdo,HL.out];exact EI
    all_goals simp
   |have c2:=PE.cell 2 _ rfl;obtain ⟨hg,LI⟩:=LsIn.add LI (x:=⟨8,ch,am+fe⟩) sM Cq uL sM;go_wp2_with fail
    first
    |clear B80
     refine (DJ _ _ g B _ _ 0 8 ch (am+fe) _ H5 hg).mono ?_;exact kp
    |refine (DK _ _ g B _ _ 0 8 ch (am+fe) _ H5 hg).mono ?_;exact kp
 |clear B9e
  exact mQ
 |clear B9i
  have C1o:=trivial;exact oH
 |exact mR):p:=h
theorem J9(h:p:=by
 intro u hu;rcases List.mem_cons.1 hu with rfl | hu
 first
 |clear A2k
  ·exact hx
  exact JG a (y :: b) z ha' hb u hu
 |clear A2l
  ·exact hy
  exact JG (x :: a) b z ha hb' u hu
 |clear A2m
  ·rw [IE] at hx ⊢;exact hx
  exact JG a b z ha' hb' u hu
 |clear A2n
  ·exact hx
  exact LL a (y :: b) ha' hb u hu
 |clear A2o
  ·exact hy
  exact LL (x :: a) b ha hb' u hu
 |·unfold JC at hx ⊢;rw [Bool.and_eq_true] at hx ⊢;exact ⟨hx.1,by simp [hne]⟩
  exact LL a b ha' hb' u hu):p:=h
theorem Tq(h:p:=by
 by_cases h0:cd=0;rotate_left
 ·exact B2K
 first
 |clear B3m
  have hcA:=HCODE.out.symm;rw [h0] at hcA
  first
  |clear C3q
   obtain ⟨r4,hcB⟩:=Bg hcA dC;obtain ⟨r3,-⟩:=Bg hcB dC;have r4:=of_decide_eq_false r4;rw [hq3,Bool.or_eq_false_iff] at r3;obtain ⟨hno,r3⟩:=r3;have r3:=of_decide_eq_false r3;have hno:=lH hno;have hq3:=lH hq3;clear hcA hcB HCODE HK1;subst h0;have e7:((0:Int) != 0)=false:=rfl;have p3:=PQ.cell 3 _ rfl;have c2:=PE.cell 2 _ rfl;have hul:=PE.lt;have hgl:=PQ.lt;obtain ⟨w5,hw5⟩:∃ x,x=w7:=⟨_,rfl⟩;rw [← hw5] at H5 WX PE PQ VQ pq p3 c2 hul hgl ⊢;clear hw5;have r3n:n≤19:=Cb;(go_upto_block 0 with fail);go_cut [4] (fun i wq=>∃ k:Nat,k≤n∧i=k∧Hid (NR b.chans ch k)∧Below w5 w5 wq)
   case first =>
    (go_wp2_with fail);go_loopw [4] (fun i wr=>∃ k:Nat,k≤n∧i=k∧Hid (∀ y∈b.chans.take k,y.id<ch)∧Below w5 w5 wr) (fun i _=>n - (intOf i).toNat)
    case atStart=>exact ⟨0,Nat.zero_le _,rfl,A1L _ _,bW⟩
    case round =>
     obtain ⟨k,hk,rfl,hall,hB⟩:=hrel;have p3:=BN hB p3;have c2:=BN hB c2;by_cases hlt:k<n;rotate_left
     ·have e1:decide ((k:Int)<(n:Int))=false:=decide_eq_false oM
      have hpl:Hid (NR b.chans ch k):=⟨hall.out,fun y hy=>by
       have h1:=(List.getElem?_eq_some_iff.1 hy).1;have h2:=HN.out
       omega⟩
      exact qr
     obtain ⟨gx,off,x,rfl,hgx,-,⟨d0,-,-,-,-,-,-⟩,hx,ht⟩:=Bz.at_ (VQ.keep hB).chans hlt;have e1:decide ((k:Int)<(n:Int))=true:=decide_eq_true oM;by_cases hxy:x.id<ch
     ·have e0:decide (x.id<ch)=true:=decide_eq_true hxy;have hgo:=lH (A0X ht.out hall.out hxy);clear hx ht hxy;(go_upto_region 5 with fail);(go_quiet (fail));exact T8
     have e0:decide (x.id<ch)=false:=decide_eq_false hxy;have hpl:Hid (NR b.chans ch k):=⟨hall.out,fun y hy=>by rw [hx.out] at hy;rw [← Option.some.inj hy];exact hxy⟩;clear hx ht hxy hgx;exact qr
   case rest =>
    obtain ⟨k,hk,rfl,hpl,hB⟩:=hcut;have C3p:=trivial;exact Ij
  |obtain ⟨r8,hcB⟩:=Bg hcA dC;obtain ⟨r7,hcC⟩:=Bg hcB dC;obtain ⟨r6,-⟩:=Bg hcC dC;have r8:=of_decide_eq_false r8;(have hc1:AI b.chans ch=true:=by simpa using r6);have hov:=HOV.out;rw [hc1,Bool.true_and] at hov;have hov:=of_decide_eq_false hov;clear hcA hcB hcC HCODE HK1 HK2 r7 r6;subst h0;have e7:((0:Int) != 0)=false:=rfl;obtain ⟨i,a,h1,h2,h3,h4,h5⟩:=EH hc1;have e1:A=a:=HA.out.trans h4;subst e1
   have hnd:(b.chans.map (fun c=>c.id)).Nodup:=by
    rw [List.nodup_iff_pairwise_ne,List.pairwise_map];exact List.Pairwise.imp (fun h=>AA) hb.so
   have hcut:=M5 (fun c=>c.id) b.chans i A hnd h2;simp only [h3] at hcut;obtain ⟨L,hL⟩:∃ L,L=b.chans.filter (fun c => !decide (c.id=ch)):=⟨_,rfl⟩;rw [← hL] at hcut;have HCUT:=lH hcut;have HL:=lH hL;clear hcut hL hnd h4 hc1;obtain ⟨ay4,m4,cy4,rfl,-,-⟩:=VS.form VQ.htlcs;obtain ⟨az4,q4,cz4,rfl,-,-⟩:=VS.form VQ.circles;have CA:=Jy (.slice ax n cx) (.slice ay4 m4 cy4) (.slice az4 q4 cz4) b ch;rw [h1] at CA;obtain ⟨p0,p1,p2,p3,p4,p5⟩:=PQ.c6;have c2:=PE.cell 2 _ rfl;(go_upto_region 5 with fail);obtain ⟨w6,hw6⟩:∃ x,x=w7:=⟨_,rfl⟩;rw [← hw6] at H5 WX PE Q PQ VQ pq p0 p1 p2 p3 p4 p5 c2 ⊢;clear hw6;go_cut [5] (fun v wq=>v = .int .i64 (i:Int)∧Below w6 w6 wq)
   case first =>
    go_region_with (go_at_call 142;refine (CA _ (VQ.keep (bW))).mono ?_;rintro e w8 ⟨rfl,b8⟩)
    all_goals
     go_wp2_with fail
     go_meet
     case rel=>exact ⟨rfl,bW⟩
   case rest =>
    obtain ⟨rfl,b68⟩:=hcut;obtain ⟨wz,hwz⟩:∃ x,x=wc:=⟨_,rfl⟩;subst hwz;have H5:=H5.keep b68;have PE:=PE.keep b68;have Q:=Q.keep b68;have WX:=WX.trans (Wf.of_below b68);clear p0 p1 p2 p3 p4 p5 c2 PQ VQ pq CA b68;exact sk
 |have hcA:=HC.out.symm;rw [h0] at hcA
  first
  |clear B3r
   obtain ⟨r8,-⟩:=Bg hcA dC;have r8:=of_decide_eq_false r8;have hov:=HOV.out;rw [HH.out,Bool.true_and] at hov;have hov:=of_decide_eq_false hov;clear hcA HC;exact nh
  |obtain ⟨r4,hcB⟩:=Bg hcA dC;obtain ⟨r3,hcC⟩:=Bg hcB dC;obtain ⟨r2,-⟩:=Bg hcC dC;have r4:=of_decide_eq_false r4;have hov:=of_decide_eq_false r2;rw [Bool.or_eq_false_iff] at r3;obtain ⟨hno,r3⟩:=r3;have r3:=of_decide_eq_false r3;have hno:=lH hno;(obtain rfl:okv=true:=by rw [HOK.out,r2];rfl);obtain rfl:sv=am+fe:=HSV.out rfl;clear hcA hcB hcC HC HSV HOK r2;have C3V:=trivial;exact nh):p:=h
theorem ik(h:p:=by
 go_wp2_with (at_builtin;refine Df LC Tryz.underlying39 rfl dC dC (fun _=>rfl) Md rfl _ _ rfl (ob+1) _ cs rfl (AC.alloc csn _) _ 0 rfl (BC _ _ _ rfl) oM (Nat.le_trans hzo (Aj _ _)) ?_)
 intro vcX wX CX bX gX
 first
 |clear B9G
  have bA:=bA wS [I0] 3;have C2T:=trivial;exact jJ
 |have bA:=bA wP [I0] 3;exact jJ):p:=h
theorem Oh(h:p:=by
 have hZ':(amt == 0)=true:=Lh;have Hf:=lH (Iz (l:=xs) ht.out A5B)
 first
 |clear C2o
  exact Su
 |clear B9m
  exact Sv
 |clear B9o
  exact S5
 |exact Sz):p:=h
theorem UV(h:p:=by
 have e0:(x.frm == ch)=true:=A8;have ho:Hid (((b.circles.take (k+1)).map (CY ch)).sum=T2+(x.amt+x.fee)):=dB
 first
 |clear C4C
  exact UW
 |clear C4D
  exact m9
 |exact Ow):p:=h
theorem UY(h:p:=by
 have e0:(x.out == ch)=true:=A8;have ho:Hid (((b.htlcs.take (k+1)).map (BS ch)).sum=T+x.aout):=cU
 first
 |clear C4E
  exact UZ
 |clear C4F
  exact nA
 |exact Ow):p:=h
theorem Ua(h:p:=by
 have e0:(x.frm == ch)=false:=A8;have ho:Hid (((b.circles.take (k+1)).map (CY ch)).sum=T2):=dB
 first
 |clear C4G
  exact UW
 |clear C4H
  exact m9
 |exact Ow):p:=h
theorem Ub(h:p:=by
 have e0:(x.out == ch)=false:=A8;have ho:Hid (((b.htlcs.take (k+1)).map (BS ch)).sum=T):=cU
 first
 |clear C4I
  exact UZ
 |clear C4J
  exact nA
 |exact Ow):p:=h
theorem qe(h:p:=by
 have Hq:Hid (q - 1=Q0):=by
  exact C2c
 clear Hd1 Hd2 h1 h2
 first
 |clear B63
  have C2y:=trivial;exact ME
 |exact ME):p:=h
theorem pM(h:p:=by
 have hok:D0 b.chans x=true:=by
  exact C3J
 have hall2:=lH (K0 (P:=D0 b.chans) ht.out hall.out hok)
 first
 |clear B40
  exact qj
 |have hKK2:Hid (b.htlcs.map (·.key) ++ (b.circles.take (k+1)).map (·.key)=KK ++ [x.key]):=dG;clear hx ht hok k0 k1 k2;obtain ⟨x0,x1,x2,x3,x4⟩:=P6.c5;exact jF):p:=h
theorem qf(h:p:=by
 have Hq:Hid (q - 1=Q1):=by
  exact C2f
 clear Hd1 Hd2 h1 h2
 first
 |clear B66
  have C2z:=trivial;exact Ka
 |exact Ka):p:=h
theorem pL(h:p:=by
 have hok:Dy b.chans x=true:=by
  exact C3I
 have hall2:=lH (K0 (P:=Dy b.chans) ht.out hall.out hok)
 first
 |clear B4z
  exact qj
 |exact sX):p:=h
theorem Ra(h:p:=by
 obtain ⟨F0,G,y,z,l,rfl,P,K,O,hd,h1,h2⟩:=h;obtain ⟨G0,G1,G2,⟨a0,a1,a2⟩,rfl,hn,hint⟩:=K
 first
 |clear A4Q
  obtain ⟨s1,s2⟩:=a0.own;rcases s2 with ⟨rfl,hz⟩ | ⟨gx,cap,cur,rfl,_,_,hle,_⟩
  ·refine ⟨none,0,0,rfl,?_,Nat.le_refl _,fun h=>absurd h oM⟩;first | exact hz.1 | exact hz | (simpa using hz)
  refine ⟨_,_,_,rfl,rfl,hle,fun _=>⟨gx,rfl,?_⟩⟩;rw [a0.F];simp [Value.ownBlock]
 |clear A4b
  have:=P.cell 4 _ rfl
  rw [hv] at this;obtain rfl:=Option.some.inj this;intro k hk;rw [← a1.F] at hk;simp [hk]
 |have:=P.cell 5 _ rfl
  rw [hv] at this;obtain rfl:=Option.some.inj this;intro k hk;rw [← a2.F] at hk;simp [hk]):p:=h
theorem RS(h:p:=by
 intro v8 w8 o8 b8 g8;obtain ⟨E2,hE2⟩:∃ l,l=EE ++ [(⟨xk,xc,xa⟩:Ln)]:=⟨_,rfl⟩
 first
 |clear A31
  have C13:=trivial;exact Od
 |clear C28
  exact gA
 |have C14:=trivial;exact TF):p:=h
theorem Sh(h:p:=by
 obtain ⟨ay,m,cy,rfl,hm,-⟩:=VS.form V.htlcs;obtain ⟨az,q,cz,rfl,hq,-⟩:=VS.form V.circles
 first
 |clear A61
  have hLB:=VS.lenB V.htlcs;have HM:=lH hm;have hnd:=lH hb.pk.ndH;have hsm:b.htlcs.length≤60:=hb.pk.h60;rw [HM.out] at hsm;clear hm hq;have O0:AC Ht.enc 7 184 (w.alloc (.cells #[] 184)) w (.slice (some ⟨w,0,none⟩) 0 0) []:=AC.made (enc:=Ht.enc) (sz:=7) (E:=184) w w (Nat.le_refl _);have b0:=bA w [] 184;have hz0:=bZ w [] 184;go_enter Tryz.func155,Tryz.ntmps155
  go_upto_region 1 with fail
  generalize w.alloc (.cells #[] 184)=w0 at O0 b0 hz0 ⊢;have Q1:=bN w0 [I0,I0,I0,I0,I0,false,I0] 184;have b1:=bA w0 [I0,I0,I0,I0,I0,false,I0] 184;have B91:=trivial;exact sB
 |clear A62
  have hLB:=VS.lenB V.circles;have HM:=lH hq;have hnd:=lH hb.pk.ndO;have hsm:b.circles.length≤20:=hb.pk.c20;rw [HM.out] at hsm;clear hm hq;have O0:AC Ci.enc 5 186 (w.alloc (.cells #[] 186)) w (.slice (some ⟨w,0,none⟩) 0 0) []:=AC.made (enc:=Ci.enc) (sz:=5) (E:=186) w w (Nat.le_refl _);have b0:=bA w [] 186;have hz0:=bZ w [] 186;go_enter Tryz.func158,Tryz.ntmps158
  go_upto_region 1 with fail
  generalize w.alloc (.cells #[] 186)=w0 at O0 b0 hz0 ⊢;have Q1:=bN w0 [I0,I0,I0,I0,I0] 186;have b1:=bA w0 [I0,I0,I0,I0,I0] 186;exact sB
 |first
  |clear B1l
   have hint:=lH V.ints;have hok0:=V.chans.oks;have hok1:=V.htlcs.oks;have hok2:=V.circles.oks;clear hn hm hq
   first
   |clear A4G
    (go_enter Tryz.func141,Tryz.ntmps141);have A8m:=trivial;exact jV
   |(go_enter Tryz.func137,Tryz.ntmps137);exact jV
  |have HN:=lH hn;have HM:=lH hm;have HQ:=lH hq;have hnB:=VS.lenB V.chans
   first
   |clear B0C
    have hmB:=VS.lenB V.htlcs;have hqB:=VS.lenB V.circles;clear hn hm hq
    first
    |clear A3N
     (go_enter Tryz.func142,Tryz.ntmps142);have C1M:=trivial;exact GV
    |clear A3O
     (go_enter Tryz.func138,Tryz.ntmps138);exact GV
    |clear A3P
     (go_enter Tryz.func143,Tryz.ntmps143);have C1C:=trivial;exact MD
    |clear A3Q
     (go_enter Tryz.func139,Tryz.ntmps139);have C1E:=trivial;exact MD
    |clear A3R
     (go_enter Tryz.func236,Tryz.ntmps236);have C1F:=trivial;exact MD
    |clear A3Y
     (go_enter Tryz.func237,Tryz.ntmps237);have C06:=trivial;exact GV
    |clear A3Z
     (go_enter Tryz.func244,Tryz.ntmps244);have C1J:=trivial;exact qw
    |clear A3a
     (go_enter Tryz.func234,Tryz.ntmps234);exact qw
    |clear A3b
     (go_enter Tryz.func140,Tryz.ntmps140);have C1H:=trivial;exact T7
    |clear A3c
     (go_enter Tryz.func136,Tryz.ntmps136);have C1I:=trivial;exact T7
    |clear A4I
     (go_enter Tryz.func266,Tryz.ntmps266);have C08:=trivial;exact GV
    |clear A4J
     (go_enter Tryz.func270,Tryz.ntmps270);have C1A:=trivial;exact GV
    |clear A4K
     (go_enter Tryz.func262,Tryz.ntmps262);exact T7
    |clear A4L
     (go_enter Tryz.func261,Tryz.ntmps261);exact MD
    |clear A4M
     (go_enter Tryz.func242,Tryz.ntmps242);exact MD
    |clear A4a
     (go_enter Tryz.func170,Tryz.ntmps170);(go_upto_region 1 with fail);refine cJ fun w0 P0 B0 hz => ?_;refine cW fun w1 E0 b1 => ?_;have P1:=P0.keep b1;have B1:=AD b1 B0;rw [hz] at E0;have V1:=V.keep B1;clear P0 B0 b1 hz;obtain ⟨p0,p1,p2,p3,p4,p5⟩:=P1.c6;have q2:=E0.cell 2 _ rfl;(go_wp2_with fail);refine (Jy _ _ _ b ch w1 V1).mono ?_;rintro e w2 ⟨rfl,b2⟩;have PX:=P1.keep b2;have EX:=E0.keep b2;have B2:=AD b2 B1;have V2:=V1.keep b2;clear p0 p1 p2 p3 p4 p5 q2 P1 E0 B1 b2 V1;obtain ⟨p0,p1,p2⟩:=PX.c3;have q0:=EX.cell 0 _ rfl;have q4:=EX.cell 4 _ rfl;have q5:=EX.cell 5 _ rfl;by_cases hn:b.next=1125899906842624
     ·have en:(b.next == 1125899906842624)=true:=Lf;(have hres:Hid (Af b ⟨kd,ky,ch,tt,am,fe,ys⟩=true):=by unfold Hid Af;simp [hn]);clear hn;exact GM
     have en:(b.next == 1125899906842624)=false:=Lf;by_cases k1:kd=1
     ·(have f1:(kd == 1)=true:=by simp [k1]);by_cases hq:1125899906842624<b.wallet+am
      ·have eq:(decide (1125899906842624<b.wallet+am))=true:=Gm;(have hres:Hid (Af b ⟨kd,ky,ch,tt,am,fe,ys⟩=true):=by unfold Hid Af;simp [hn,k1,hq]);exact sH
      have eq:(decide (1125899906842624<b.wallet+am))=false:=Gm;(have hres:Hid (Af b ⟨kd,ky,ch,tt,am,fe,ys⟩=false):=by unfold Hid Af;simp [hn,k1,hq]);exact sH
     (have f1:(kd == 1)=false:=by simp [k1]);by_cases k2:kd=2
     ·(have f2:(kd == 2)=true:=by simp [k2]);by_cases hq:1125899906842624<am+fe
      ·have eq:(decide (1125899906842624<am+fe))=true:=Gm;(have hres:Hid (Af b ⟨kd,ky,ch,tt,am,fe,ys⟩=true):=by unfold Hid Af;simp [hn,k2,hq]);exact sG
      have eq:(decide (1125899906842624<am+fe))=false:=Gm;(have hres:Hid (Af b ⟨kd,ky,ch,tt,am,fe,ys⟩=false):=by unfold Hid Af;simp [hn,k2,hq]);exact sG
     (have f2:(kd == 2)=false:=by simp [k2]);by_cases k3:kd=3;rotate_left
     ·(have f3:(kd == 3)=false:=by simp [k3]);by_cases k8:kd=8;rotate_left
      ·(have f8:(kd == 8)=false:=by simp [k8]);(have hres:Hid (Af b ⟨kd,ky,ch,tt,am,fe,ys⟩=false):=by unfold Hid Af;simp [hn,k1,k2,k3,k8]);clear k1 k2 k3 k8 hn;exact GM
      (have f8:(kd == 8)=true:=by simp [k8]);by_cases hq:b.tick=1125899906842624
      ·have eq:(b.tick == 1125899906842624)=true:=Gm;(have hres:Hid (Af b ⟨kd,ky,ch,tt,am,fe,ys⟩=true):=by unfold Hid Af;simp [hn,k8,hq]);exact sE
      have eq:(b.tick == 1125899906842624)=false:=Gm;(have hres:Hid (Af b ⟨kd,ky,ch,tt,am,fe,ys⟩=false):=by unfold Hid Af;simp [hn,k8,hq]);exact sE
     have f3:(kd == 3)=true:=by simp [k3]
     cases hc:AI b.chans ch with
     | true =>
      obtain ⟨i,a,h1,h2,h3,h4,h5⟩:=EH hc;rw [h1];have e1:decide (0≤(i:Int))=true:=decide_eq_true oM;obtain ⟨g',off',a',rfl,hg',-,⟨c0,c1,c2,c3,c4,c5,c6⟩,hx,-⟩:=Bz.at_ V2.chans (show i<n by have:=HN.out;omega);(have:=hx.out);rw [h2] at this;obtain rfl:=Option.some.inj this;have hla:=hl a (List.mem_of_getElem? h2);clear this hx h1 h2;have p3:=PX.cell 3 _ rfl;have hw1:IntKind.i64.wrap (b.wallet+a.loc)=b.wallet+a.loc:=Ao;have hw2:IntKind.i64.wrap (b.wallet+a.loc - fe)=b.wallet+a.loc - fe:=Ao;have hlt:i<n:=Cb;by_cases hq:1125899906842624<b.wallet+a.loc - fe
      ·have eq:(decide (1125899906842624<b.wallet+a.loc - fe))=true:=Gm;(have hres:Hid (Af b ⟨kd,ky,ch,tt,am,fe,ys⟩=true):=by unfold Hid Af;simp [hn,k3,hc,h4,hq]);exact pQ
      have eq:(decide (1125899906842624<b.wallet+a.loc - fe))=false:=Gm;(have hres:Hid (Af b ⟨kd,ky,ch,tt,am,fe,ys⟩=false):=by unfold Hid Af;simp [hn,k3,hc,h4,hq]);exact pQ
     | false =>
      rw [IW hc];(have hres:Hid (Af b ⟨kd,ky,ch,tt,am,fe,ys⟩=false):=by unfold Hid Af;simp [hn,k3,hc]);clear k1 k2 k3 hn hc;exact GM
    |have P0:=bN w [b.tick,b.next,b.wallet, .slice ax n cx, .slice ay m cy, .slice az q cz] 54;have B0:=bA w [b.tick,b.next,b.wallet, .slice ax n cx, .slice ay m cy, .slice az q cz] 54;have hz:=bZ w [b.tick,b.next,b.wallet, .slice ax n cx, .slice ay m cy, .slice az q cz] 54;(go_enter Tryz.func247,Tryz.ntmps247);(go_upto_region 1 with fail);generalize w.alloc (.cells #[b.tick,b.next,b.wallet, .slice ax n cx, .slice ay m cy, .slice az q cz] 54)=w0 at P0 B0 hz ⊢;have I0:=bN w0 [i0,i1,i2,i3,i4,i5,i6] 182;have b1:=bA w0 [i0,i1,i2,i3,i4,i5,i6] 182;have hz1:(w0.alloc (.cells #[i0,i1,i2,i3,i4,i5,i6] 182)).heap.size=w.heap.size+1+1:=Ek;generalize w0.alloc (.cells #[i0,i1,i2,i3,i4,i5,i6] 182)=w1 at I0 b1 hz1 ⊢;have O0:=bN w1 [o0,o1,o2,o3,o4,o5,o6] 182;have b2:=bA w1 [o0,o1,o2,o3,o4,o5,o6] 182;generalize w1.alloc (.cells #[o0,o1,o2,o3,o4,o5,o6] 182)=w2 at O0 b2 ⊢;have B2:=AD b2 (AD b1 B0);have P2:=(P0.keep b1).keep b2;have I2:=I0.keep b2;rw [hz1] at O0;rw [hz] at I2;have V2:=V.keep B2;clear P0 B0 b1 b2 hz hz1 I0;have p4:=P2.cell 4 _ rfl;go_wp2;go_loopw [11,12,13,14,16,20] (fun f a sf sa _ i wr=>∃ (k:Nat) (s1 s2 s3 s4:Int),k≤m∧i=k∧f=s1∧a=s2∧sf=s3∧sa=s4∧Hid (Bp (b.htlcs.take k) o0=(s1,s2,s3,s4))∧Below w2 w2 wr) (fun _ _ _ _ _ i _=>m - (intOf i).toNat)
     case atStart=>exact ⟨0,0,0,0,0,Nat.zero_le _,rfl,rfl,rfl,rfl,rfl,rfl,Below.refl _ _⟩
     case round =>
      obtain ⟨k,s1,s2,s3,s4,hk,rfl,rfl,rfl,rfl,rfl,hs,hB2⟩:=hrel;have hBw:=AD hB2 B2;have hbd:=Qj b.htlcs o0 hB k EL;rw [hs.out] at hbd;dsimp only at hbd;have hm60:m≤60:=EL;have OX:=O0.keep hB2;by_cases hlt:k<m;rotate_left
      ·have hr:Bp b.htlcs o0=(s1,s2,s3,s4):=bV;have x1:=OX.cell 1 _ rfl;have x6:=(I2.keep hB2).cell 6 _ rfl;obtain ⟨q,hq⟩:∃ q,q=J3 i6 ys:=⟨_,rfl⟩;have ST:=fun w=>wo i6 ys w;simp only [← hq] at ST;have AL:=fun w=>A0o o1 s1 s2 s3 s4 amt q w ⟨hI.1,uI,uI,uI,uI,hI.2⟩;obtain ⟨r,hrr⟩:∃ r,r=Cz o1 s1 s2 s3 s4 amt q:=⟨_,rfl⟩;simp only [← hrr] at AL;(have hres:Hid (ED b ⟨i0,i1,i2,i3,i4,i5,i6⟩ ⟨o0,o1,o2,o3,o4,o5,o6⟩ o0 amt ys=r):=by unfold Hid ED;rw [hr,hrr,hq]);clear hr hq hrr hs hbd;(go_upto_region 15 with fail);have x1g:=fun g:Grew wr=>g.cell x1;have x6g:=fun g:Grew wr=>g.cell x6;refine ET kR kR ?_;(repeat (go_big_quiet_step (first | (go_at_call 304;with_reducible exact Calls.grew_of_same (ST _)) | (go_at_call 303;with_reducible exact Calls.grew_of_same (AL _)))));have B7j:=trivial;exact El
      have C4K:=trivial;exact bU
   |first
    |clear C2U
     clear hn hm hq;exact ot
    |clear hn hm hq;exact oq):p:=h
theorem PL(h:p:=by
 have hX:w.heap.size≤X0.heap.size:=AA;replace ho1:=ho1.le hX
 first
 |clear B8s
  replace ho2:=ho2.le hX;exact ⟨⟨_,_,_,rfl,C0.of ho1 ho2 hnd⟩,hT.b⟩
 |clear B8q
  exact ⟨⟨_,_,rfl,⟨_,ho1,rfl,hnd,V.int⟩⟩,hT.b⟩
 |clear C0B
  replace ho2:=ho2.le hX;replace ho3:=ho3.le hX
  first
  |clear B4x
   replace ho4:=ho4.le hX;replace ho5:=ho5.le hX
   first
   |clear C2r
    exact ⟨⟨_,_,_,_,_,_,_,_,_,rfl,⟨_,_,_,_,_,⟨ho1,ho2,ho3,ho4,ho5⟩,rfl,hnd⟩⟩,hT.b⟩
   |exact ⟨⟨_,_,_,_,_,_,_,_,_,_,_,_,_,_,rfl,⟨_,_,_,_,_,⟨ho1,ho2,ho3,ho4,ho5⟩,rfl,hnd⟩⟩,hT.b⟩
  |exact ⟨⟨_,_,_,_,rfl,⟨_,_,_,⟨ho1,ho2,ho3⟩,rfl,hnd,V.ints⟩⟩,hT.b⟩
 |exact ⟨⟨_,_,_,rfl,⟨_,ho1,rfl,hnd,V.ints⟩⟩,hT.b⟩):p:=h
theorem Tm(h:p:=by
 obtain ⟨ay,m,cy,rfl,-,-⟩:=VS.form V.htlcs;obtain ⟨az,q,cz,rfl,-,-⟩:=VS.form V.circles
 first
 |clear B22
  have HN:=lH hn;have hnB:=VS.lenB V.chans;clear hn
  first
  |clear A7e
   have PE:=bN w [.int .i64 3,ky,ch,tt,am,fe,ys] 73;have b0:=bA w [.int .i64 3,ky,ch,tt,am,fe,ys] 73;have B8C:=trivial;exact Jb
  |have PE:=bN w [.int .i64 2,ky,ch,tt,am,fe,ys] 73;have b0:=bA w [.int .i64 2,ky,ch,tt,am,fe,ys] 73;have B8D:=trivial;exact Jb
 |clear C2C
  first
  |clear A6Q
   (go_enter Tryz.func81,Tryz.ntmps81);have B8Y:=trivial;exact rF
  |clear B1A
   (go_enter Tryz.func74,Tryz.ntmps74);exact rF
  |first
   |clear A93
    have PE:=bN w [k0,ky,ch,tt,am,fe,ys] 73;have b0:=bA w [k0,ky,ch,tt,am,fe,ys] 73;have B8A:=trivial;exact Jb
   |clear B2y
    first
    |clear C29
     first
     |clear A4j
      have PE:=bN w [.int .i64 10,ky,ch,tt,am,fe,ys] 73;have b0:=bA w [.int .i64 10,ky,ch,tt,am,fe,ys] 73;have B8E:=trivial;exact oA
     |have PE:=bN w [.int .i64 11,ky,ch,tt,am,fe,ys] 73;have b0:=bA w [.int .i64 11,ky,ch,tt,am,fe,ys] 73;exact oA
    |first
     |clear A4i
      have PE:=bN w [.int .i64 6,ky,ch,tt,am,fe,ys] 73;have b0:=bA w [.int .i64 6,ky,ch,tt,am,fe,ys] 73;have B8F:=trivial;exact oB
     |have PE:=bN w [.int .i64 7,ky,ch,tt,am,fe,ys] 73;have b0:=bA w [.int .i64 7,ky,ch,tt,am,fe,ys] 73;exact oB
   |first
    |clear B9W
     have B8G:=trivial;exact oq
    |have B8I:=trivial;exact ot
 |first
  |clear A4T
   have CA:=Hi _ _ _ b ch w V;rw [h1] at CA;rw [h4] at hl hr;have hak:=H.oks a (List.mem_of_getElem? h2);have hmod:=XG hs h2 h3 (AO dl dr);have H2:=lH h2;have HN:=lH hn;have HM:=lH hmod;have hlt:i<n:=AA;clear h1 h2 h3 h4 hn hrr h5 hmod h hs;obtain ⟨aid,asz,alo,are,abs,app,asc⟩:=a;dsimp only at hl hr;(have hwl:IntKind.i64.wrap (alo+dl)=alo+dl:=by unfold AE at hl;rw [IntKind.wrap_i64];omega);(have hwr:IntKind.i64.wrap (are+dr)=are+dr:=by unfold AE at hr;rw [IntKind.wrap_i64];omega);obtain ⟨p0,p1,p2,p3,p4,p5⟩:=P.c6;(go_enter Tryz.func248,Tryz.ntmps248);(go_wp2_with fail);refine CA.mono ?_;rintro e w1 ⟨rfl,b1⟩;have P1:=P.keep b1;have H1:=H.keep b1;have W1:Wf g F F w w1:=Wf.of_below b1;have V1:=V.keep b1;clear p0 p1 p2 p3 p4 p5 P CA H b1 V;obtain ⟨g',off',a',e',hg',-,⟨c0,c1,c2,c3,c4,c5,c6⟩,hx,-⟩:=Bz.at_ V1.chans hlt;have C4L:=trivial;exact S9
  |have CA:=Jy _ _ _ b id w V;rw [h1] at CA
   first
   |clear A4R
    have hlt:i<n:=AA;have H2:=lH h2;have H4:=lH h4;have HN:=lH hn;have e0:decide ((i:Int)<0)=false:=decide_eq_false oM;clear h1 h2 h4 hn hr h5;have C0G:=trivial;exact sD
   |clear h1 hn hr hc h;exact sD):p:=h
theorem S9(h:p:=by
 simp only [Option.some.injEq,Addr.mk.injEq,and_true] at e';obtain ⟨rfl,rfl⟩:=e'
 first
 |clear A8k
  have hxx:=hx.out;simp only [h5,if_true] at hxx;rw [hi2] at hxx;obtain rfl:=Option.some.inj hxx;simp only [Nat.zero_add] at c6;have z6:=HL.fz (k2*7+6);clear hx hxx haa hi V3;have HX:=HL.chan (i:=k2) (f:=6) (a':=Ef a) (u := .int .i64 (DR a.score)) hi2 dC rfl ⟨hak.1,hak.2.1,hak.2.2.1,hak.2.2.2.1,hak.2.2.2.2.1,hak.2.2.2.2.2.1,hsa⟩;simp only [hm2] at HX
  first
  |clear B7z
   have FW:=WL.trans HX.2;have FK:=HX.1;have CF:=yZ a.score wr hak.2.2.2.2.2.2;clear HX HL hm2 hi2 h5;(go_wp2_with fail);refine CF.mono ?_;rintro e w9 ⟨rfl,rfl⟩;go_wp2;go_roundw
   case rel=>exact ⟨k2+1,AA,Ab,FK,FW⟩
   case measure=>simp only [intOf];omega
  |have FW:=(WL.trans HX.2).trans (Wf.of_below (Below.drew (Below.refl _ _)));have FK:=HX.1.keep (Below.drew (Below.refl _ _));have CF:=fun w=>xr a.score w hak.2.2.2.2.2.2;clear HX HL hm2 hi2 h5;(go_upto_region 12 with fail);go_region_with (go_at_call 251;refine (CF _).mono ?_;rintro e w9 ⟨rfl,rfl⟩)
   all_goals
    go_wp2
    go_roundw
    case rel=>exact ⟨k2+1,AA,Ab,FK,FW⟩
    case measure=>simp only [intOf];omega
 |clear C4L
  have:=H2.out
  rw [hx.out] at this;obtain rfl:=Option.some.inj this;clear this hx;simp only [Nat.zero_add] at c0 c1 c2 c3 c4 c5 c6;have p3:=P1.cell 3 _ rfl;go_upto_region 2 with fail
  refine cW fun w2 Q b2 => ?_;obtain ⟨u,hu⟩:∃ u,u=w1.heap.size:=⟨_,rfl⟩;rw [← hu] at Q ⊢;have hf:=H1.fresh;rw [← hu] at hf;have P2:=P1.keep b2;have H2x:=H1.keep b2;have W2:=W1.trans (Wf.of_below b2);have hu0:w.heap.size≤u:=by have:=W1.1.size;omega
  clear W1 H1 P1 V1 b2 c0 c1 c2 c3 c4 c5 c6 p3 hu hg';have q2:=Q.cell 2 _ rfl;have z2:=Q.fz 2 AF;go_upto_region 3 with fail
  have QN:Bx (w2.setCell ⟨u,2,none⟩ (.int .i64 (alo+dl))) u [aid,asz, .int .i64 (alo+dl),are,abs,app,asc]:=Q.set1 2 _ AF;have PN:=P2.otherC u 2 (Value.int .i64 (alo+dl)) (fun e=>hf EN);have HN2:=H2x.other hf 2 (Value.int .i64 (alo+dl));have WN:=W2.other hu0 2 (Value.int .i64 (alo+dl));clear q2 z2 Q P2 H2x W2;generalize w2.setCell ⟨u,2,none⟩ (.int .i64 (alo+dl))=w3 at QN PN HN2 WN ⊢;have q3:=QN.cell 3 _ rfl;have z3:=QN.fz 3 AF;go_upto_region 4 with fail
  have Q4:Bx (w3.setCell ⟨u,3,none⟩ (.int .i64 (are+dr))) u [aid,asz, .int .i64 (alo+dl), .int .i64 (are+dr),abs,app,asc]:=QN.set1 3 _ AF;have P4:=PN.otherC u 3 (Value.int .i64 (are+dr)) (fun e=>hf EN);have H4:=HN2.other hf 3 (Value.int .i64 (are+dr));have W4:=WN.other hu0 3 (Value.int .i64 (are+dr));clear q3 z3 QN PN HN2 WN;generalize w3.setCell ⟨u,3,none⟩ (.int .i64 (are+dr))=w4 at Q4 P4 H4 W4 ⊢;obtain ⟨q0,q1,q2,q3,q4,q5,q6⟩:=Q4.c7;have p3:=P4.cell 3 _ rfl;obtain ⟨y',z',l',-,V4,-⟩:=H4.cells;obtain ⟨g',off',a',e',hg',-,⟨c0,c1,c2,c3,c4,c5,c6⟩,hx,-⟩:=Bz.at_ V4.chans hlt;exact S9
 |simp only [Nat.zero_add] at c0 c1 c2 c3 c4 c5 c6;have f0:=H4.fz (i*7);have f1:=H4.fz (i*7+1);have f2:=H4.fz (i*7+2);have f3:=H4.fz (i*7+3);have f4:=H4.fz (i*7+4);have f5:=H4.fz (i*7+5);have f6:=H4.fz (i*7+6);have FIN:=H4.chan7 (a2:=⟨aid,asz,alo+dl,are+dr,abs,app,asc⟩) H2.out hak ⟨hak.1,hak.2.1,hl,hr,hak.2.2.2.2⟩;have HCH:Hid (b.chans.set i ⟨aid,asz,alo+dl,are+dr,abs,app,asc⟩=AU b.chans ch (AO dl dr)):=HM.out;rw [HCH.out] at FIN;simp only [World.setCells,Cn.enc,Nat.add_assoc,Nat.reduceAdd] at FIN;have FW:=(W4.trans FIN.2).trans (Wf.of_below (Below.drew (Below.refl _ _)));have FK:=FIN.1.keep (Below.drew (Below.refl _ _));clear FIN H4 W4 Q4 P4 V4 hx hl hr;go_region_with (fail)
  all_goals
   go_wp2
   go_end0
   with_reducible exact ⟨rfl,FK,FW⟩):p:=h
theorem ru(h:p:=by
 have Hn:=lH (WV ht.out hp.out hA hZ hM (by rw [hlast];intro y hy;cases hy));have Hs:=lH (show Br (xs.take (k+1))=T+amt by rw [ht.out,Xa,HT.out];simp [Br])
 first
 |clear B9n
  have B7n:=trivial;exact jQ
 |have B7l:=trivial;exact jP):p:=h
theorem pZ(h:p:=by
 go_region_with (go_at_call 266;refine (CA _ (V0.keep (bW))).mono ?_;rintro e w1 ⟨rfl,b1⟩)
 all_goals
  go_wp2_with fail
  go_meet
  case rel=>exact ⟨rfl,bW⟩):p:=h
theorem pY(h:p:=by
 go_region_with (go_at_call 270;refine (CA _ (V0.keep (bW))).mono ?_;rintro e w1 ⟨rfl,b1⟩)
 all_goals
  go_wp2_with fail
  go_meet
  case rel=>exact ⟨rfl,bW⟩):p:=h
theorem bU(h:p:=by
 obtain ⟨g,off,⟨k0,k1,k2,k3,k4,k5,k6⟩,rfl,hg,-,⟨c0,c1,c2,c3,c4,c5,c6⟩,hx,ht⟩:=DC.at_ (V2.keep hB2).htlcs hlt;have hao:=hB _ (List.mem_of_getElem? hx.out)
 first
 |clear C4K
  have hgo:=Pr o0 ht.out;rw [hs.out] at hgo;dsimp only at c0 c1 c2 c3 c4 c5 c6 hao;have q0:=OX.cell 0 _ rfl;have hol:=OX.lt;by_cases h1:k2=o0;rotate_left
  ·have e1:(k2 != o0)=true:=BG;have hn2:Hid (Bp (b.htlcs.take (k+1)) o0=(s1,s2,s3,s4)):=KM;exact KY
  have e1:(k2 != o0)=false:=BG
  cases k5 with
  | true =>
   have hn2:Hid (Bp (b.htlcs.take (k+1)) o0=(s1,s2+k4,s3,s4+1)):=KM;exact KY
  | false =>
   have hn2:Hid (Bp (b.htlcs.take (k+1)) o0=(s1+k4,s2+k4,s3+1,s4+1)):=KM;exact KY
 |have hgo:=Pr tt ht.out;rw [hs.out] at hgo;dsimp only at c0 c1 c2 c3 c4 c5 c6 hao;have q0:=EX.cell 3 _ rfl;have hol:=EX.lt;by_cases h1:k2=tt;rotate_left
  ·have e1:(k2 != tt)=true:=BG;have hn2:Hid (Bp (b.htlcs.take (k+1)) tt=(s1,s2,s3,s4)):=KM;exact KY
  have e1:(k2 != tt)=false:=BG
  cases k5 with
  | true =>
   have hn2:Hid (Bp (b.htlcs.take (k+1)) tt=(s1,s2+k4,s3,s4+1)):=KM;exact KY
  | false =>
   have hn2:Hid (Bp (b.htlcs.take (k+1)) tt=(s1+k4,s2+k4,s3+1,s4+1)):=KM;exact KY):p:=h
theorem RZ(h:p:=by
 refine ye fun X0 hT ZX => ?_;have hs:X0.heap.size≤X0.heap.size:=Nat.le_refl _
 first
 |clear A4E
  have p:=hT.p.cell 3 _ rfl;go_wp2_with fail
  refine (ug _ b.chans X0 (V.chans.keep hT.b) hB.1).mono ?_;have C1a:=trivial;exact TT
 |clear C2J
  first
  |clear A4C
   have p:=hT.p.cell 0 _ rfl;(go_wp2_with fail);refine (A0B _ d.cells X0 (V.cells.keep hT.b) hB.1.1 hB.1.2).mono ?_;have C1Z:=trivial;exact TT
  |clear A4D
   (go_wp2_with ((show Go.wpList _ _ _ ((Go.Oper.mk _ (Go.Op.load 25 _) _ _ _ _) :: _) _ _);refine Ce Vf XK rfl _ rfl _ _ rfl _ (hT.p.range 0 [v0,v1] rfl) rfl ?_));refine (YG _ _ l.disk X0 (V.disk.keep hT.b) hB).mono ?_;have C1f:=trivial;exact mM
  |(go_wp2_with ((show Go.wpList _ _ _ ((Go.Oper.mk _ (Go.Op.load 27 _) _ _ _ _) :: _) _ _);refine Ce wL zC rfl _ rfl _ _ rfl _ (hT.p.range 0 [c,d,h.log.next,h.log.epoch] rfl) rfl ?_));refine (A2C _ _ h.log X0 (V.log.keep hT.b) hB.1).mono ?_;exact mM
 |first
  |clear A4F
   have p:=hT.p.cell 1 _ rfl;(go_wp2_with fail);refine (wv _ l.lines X0 (V.lines.keep hT.b) hB).mono ?_;exact TT
  |(go_wp2_with ((show Go.wpList _ _ _ ((Go.Oper.mk _ (Go.Op.load 38 _) _ _ _ _) :: _) _ _);refine Ce yI zy rfl _ rfl _ _ rfl _ (hT.p.range 1 [c,d,W.hub.log.next,W.hub.log.epoch,W.hub.book.tick,W.hub.book.next,W.hub.book.wallet,x,y,z,W.hub.ledger.last,l,p,q] rfl) rfl ?_));refine (A1g _ _ _ _ _ _ _ _ W.hub X0 (V.hub.keep hT.b) hB.1).mono ?_;rintro e w1 ⟨⟨F1,u0,u1,u2,u3,u4,u5,u6,u7,rfl,ho1⟩,hb⟩;have C1e:=trivial;exact mN):p:=h
theorem Qx(h:p:=by
 simp only [Bool.and_eq_true,decide_eq_true_eq] at h;exact ⟨h.1.1,h.1.2,h.2⟩):p:=h
theorem gc(h:p:=by
 obtain rfl:sv=am+fv:=by
  exact C3K
 by_cases h11:A.rem<am+fv
 first
 |clear A7W
  ·have C2x:=trivial;exact sp
  have C23:=trivial;exact ss
 |·exact sp
  exact ss):p:=h
theorem mp(h:p:=by
 have INR:=fun w=>Cy amt (-1125899906842624) 1125899906842624 w;simp only [show Ad amt (-1125899906842624) 1125899906842624=true from hM] at INR
 first
 |clear B2J
  have Hf:=lH (Iz (l:=xs) ht.out (by rw [hlast];simp [AV,hL]));exact Sz
 |first
  |clear C2p
   exact ru
  |exact rx):p:=h
theorem UI(h:p:=by
 clear hd;exact KU):p:=h
theorem UQ(h:p:=by
 have hok:=A2N (b:=b) (c:=⟨ci,cz,cl,cr,cb,cp,cs⟩) G9 G9 G9 G9 G9 G9 G9 A5Q;have hall2:=lH (K0 (P:=Er b) ht.out hall.out hok)
 first
 |clear C2D
  have hsort2:Hid (Cv (b.chans.take (k+1))):=Uj ht.out hsort.out (fun p hp=>by rw [hk0] at hp;simp at hp)
  first
  |clear C4M
   exact qc
  |exact gi
 |have hsort2:Hid (Cv (b.chans.take (k+1))):=Uj ht.out hsort.out (fun p hp=>A5R)
  first
  |clear C4N
   exact qc
  |exact gi):p:=h
theorem TC(h:p:=by
 refine bodyPost_ret dV rfl ?_;exact Pe):p:=h
theorem rx(h:p:=by
 have Hn:=lH (WV ht.out hp.out hA hZ hM A5C);have Hs:=lH (show Br (xs.take (k+1))=T+amt by rw [ht.out,Xa,HT.out];simp [Br])
 first
 |clear B9p
  exact Lr
 |exact iw):p:=h
theorem RI(h:p:=by
 go_wp2_with (fail)
 all_goals
  go_ret
  exact ⟨Ag RH,bW⟩):p:=h
theorem Ng(h:p:=by
 simp only [List.length_cons] at *;omega):p:=h
theorem tF(h:p:=by
 rw [if_neg oM,if_neg oM,if_neg oM,if_neg oM,if_neg oM,if_neg oM,if_neg oM,if_neg oM] at hc;obtain ⟨h1,-⟩:=Ez hc oM
 first
 |clear C4O
  exact WB h LU (.inl rfl)
 |exact WB h LU (.inr rfl)):p:=h
theorem Zx(h:p:=by
 have hr:=lH (show J3 n y=(BI n && decide (20≤n) && y) from rfl);cases hs:BI n<;>cases y<;>by_cases h0:20≤n
 first
 |clear A3W
  all_goals
   simp only [hs] at CS
   have hd:Hid (decide (20≤n)=true∨decide (20≤n)=false):=by unfold Hid;cases decide (20≤n)<;>simp
   rw [hs] at hr
   have HR:=hr
   clear hs hr
   go_enter Tryz.func310,Tryz.ntmps310
   go_wp2_with ((go_at_call 239;refine (CS _).mono ?_;rintro e w1 ⟨rfl,rfl⟩))
   all_goals
    go_ret
    exact ⟨Ag (by rw [HR.out];simp [h0]<;>omega),rfl⟩
 |all_goals
   simp only [hs] at CS
   have hd:Hid (decide (20≤n)=true∨decide (20≤n)=false):=by unfold Hid;cases decide (20≤n)<;>simp
   rw [hs] at hr
   have HR:=hr
   clear hs hr
   go_enter Tryz.func304,Tryz.ntmps304
   go_wp2_with ((go_at_call 235;refine (CS _).mono ?_;rintro e w1 ⟨rfl,rfl⟩))
   all_goals
    go_ret
    exact ⟨Ag (by rw [HR.out];simp [h0]<;>omega),rfl⟩):p:=h
theorem UJ(h:p:=by
 obtain ⟨g,off,x,rfl,hg,-,⟨d0,d1,d2,d3,d4⟩,hx,ht⟩:=DA.at_ (V0.keep hB3).circles hlt;have hxb:=hP.cmem hx.out
 first
 |clear B90
  by_cases h1:x.tw=ch
  ·have C4P:=trivial;exact UW
  have e1:(x.tw == ch)=false:=BG;have hi:Hid (((b.circles.take (k+1)).map (Bu ch)).sum=U2):=Rt;exact Ox
 |by_cases h0:x.frm=ch
  first
  |clear B9D
   ·by_cases h1:x.tw=ch
    ·have C4C:=trivial;exact UV
    have C4D:=trivial;exact UV
   by_cases h1:x.tw=ch
   ·have C4G:=trivial;exact Ua
   have C4H:=trivial;exact Ua
  |·exact UV
   exact Ua):p:=h
theorem C4Q(h:p:=by
 unfold Hid Cz;rw [if_pos A5K]):p:=h
theorem UO(h:p:=by
 have FW:=FIN.2.trans (Wf.of_below (Below.drew (Below.refl _ _)));have FK:=FIN.1.keep (Below.drew (Below.refl _ _))
 first
 |clear C12
  obtain ⟨PE',nE'⟩:=FW.box PE nE
  first
  |clear C27
   clear FIN;(go_upto_region 9 with fail);go_cut [] (fun wq=>wq=World.drew (World.setCell w9 ⟨g,2,none⟩ (Value.int IntKind.i64 (b.wallet+am))))
   case first =>
    exact EP
   case' rest =>
    obtain ⟨wb2,hwn⟩:∃ x,x=wc:=⟨_,rfl⟩
    subst hwn
    rw [← hcut] at FK PE' FW
    clear hcut
   have H5:=FK;have PEo:=PE;have PE:=PE';have nE:=nE';have WX:=FW;clear FK PE' nE' FW p2 zr e4 PP;have B9u:=trivial;exact r9
  |clear B55
   obtain ⟨Q',nQ'⟩:=FW.box Q nQ;have WX':=WX.trans FW
   first
   |clear B3T
    clear FIN AT FW H5 PE nE Q nQ WX
    first
    |clear B6s
     go_cut [] (fun wq=>wq=World.drew (World.setCell w7 ⟨gx1,ia*7+3,none⟩ (Value.int IntKind.i64 (a.rem+(q3+q4)))))
     case first =>
      exact EP
     have B4G:=trivial;exact mI
    |clear B6v
     go_cut [] (fun wq=>wq=World.drew (World.setCell w7 ⟨gx1,ia*7+2,none⟩ (Value.int IntKind.i64 (a.loc+(q3+q4)))))
     case first =>
      exact EP
     exact mI
    |clear B6w
     go_cut [] (fun wq=>wq=World.drew (World.setCell w7 ⟨gx1,ia*7+2,none⟩ (Value.int IntKind.i64 (a.loc+q3))))
     case first =>
      exact EP
     have B4J:=trivial;exact Te
    |clear B6t
     go_cut [] (fun wq=>wq=World.drew (World.setCell w7 ⟨gx1,ia*7+3,none⟩ (Value.int IntKind.i64 (a.rem+q3))))
     case first =>
      exact EP
     exact Te
    |clear C2g
     go_cut [] (fun wq=>wq=World.drew (World.setCell wb1 ⟨gx1,jd*7+2,none⟩ (Value.int IntKind.i64 (d.loc+q3))))
     case first =>
      exact EP
     have B4B:=trivial;exact lZ
    |clear C2h
     go_cut [] (fun wq=>wq=World.drew (World.setCell wb1 ⟨gx1,jd*7+3,none⟩ (Value.int IntKind.i64 (d.rem+q3))))
     case first =>
      exact EP
     exact lZ
    |clear C2i
     go_cut [] (fun wq=>wq=World.drew (World.setCell wb1 ⟨gx1,jd*7+3,none⟩ (Value.int IntKind.i64 (d.rem+q4))))
     case first =>
      exact EP
     have B4D:=trivial;exact OV
    |go_cut [] (fun wq=>wq=World.drew (World.setCell wb1 ⟨gx1,jd*7+2,none⟩ (Value.int IntKind.i64 (d.loc+q4))))
     case first =>
      exact EP
     exact OV
   |clear FIN FW H5 PE nE Q nQ WX
    first
    |clear B3A
     (go_upto_region 7 with fail);go_cut [] (fun wq=>wq=World.drew (World.setCell w8 ⟨g,2,none⟩ (Value.int IntKind.i64 (b.wallet+(A.loc - fe)))))
     case first =>
      exact EP
     have B39:=trivial;exact jq
    |go_cut [] (fun wq=>wq=World.drew (World.setCell w8 ⟨g,2,none⟩ (Value.int IntKind.i64 (b.wallet+A.loc - fe))))
     case first =>
      exact EP
     exact jq
  |have WX':=WX.trans FW
   first
   |clear A89
    clear FIN FW H5 PE nE WX
    first
    |clear C38
     (go_upto_region 9 with fail);have B8w:=trivial;exact lM
    |exact lM
   |clear FIN AT FW H5 PE nE WX
    first
    |clear B82
     go_cut [] (fun wq=>wq=World.drew (World.setCell wb1 ⟨p1,jd*7+3,none⟩ (Value.int IntKind.i64 (D.rem - am))))
     case first =>
      exact EP
     have B8z:=trivial;exact TQ
    |go_cut [] (fun wq=>wq=World.drew (World.setCell wb1 ⟨p1,jd*7+2,none⟩ (Value.int IntKind.i64 (D.loc - am))))
     case first =>
      exact EP
     exact TQ
 |obtain ⟨Q',nQ'⟩:=FW.box Q nQ
  first
  |clear C11
   have WX':=WX.trans FW;have CS:=fun w=>yh a.score w aok2.2.2.2.2.2.2;clear FIN AT FW aok aok2;(go_upto_region 15 with fail);go_cut [] (fun wq=>wq=World.drew (World.setCell w6 ⟨gx,ia*7+6,none⟩ (Value.int IntKind.i64 (Co a.score))))
   case first =>
    go_region_with (go_at_call 249;refine (CS _).mono ?_;rintro e w8 ⟨rfl,rfl⟩)
    all_goals
     go_wp2_with fail
     go_meet
     case rel=>rfl
   have B2c:=trivial;exact nC
  |have WX':=WX.trans FW;have CS:=fun w=>A0K a.score w aok2.2.2.2.2.2.2;clear FIN AT FW aok aok2;(go_upto_region 20 with fail);go_cut [] (fun wq=>wq=World.drew (World.setCell w6 ⟨gx,ia*7+6,none⟩ (Value.int IntKind.i64 (Ch a.score))))
   case first =>
    go_region_with (go_at_call 250;refine (CS _).mono ?_;rintro e w8 ⟨rfl,rfl⟩)
    all_goals
     go_wp2_with fail
     go_meet
     case rel=>rfl
   exact nC):p:=h
theorem sN(h:p:=by
 obtain ⟨sq,hsq⟩:∃ n,n=num (part xs 1 3):=⟨_,rfl⟩;obtain ⟨ep,hep⟩:∃ n,n=num (part xs 4 3):=⟨_,rfl⟩
 first
 |clear C1U
  obtain ⟨bs,hbs⟩:∃ n,n=w0.heap.size:=⟨_,rfl⟩;have hbz:bs=w0.heap.size:=hbs;rw [← hbs] at Q0 b1 V1 P0l ⊢;have HBS:=lH hbs;have HE:=lH hep;have HSQ:=lH hsq;have hl1:=H128.out;have q1l:=Q0.lt;clear P0 b1 V0 hbz hbs;have G1:=NA _ xs 1 3 w1 (V1.mono oM) oM oM oM oM;rw [← hsq] at G1;have q0:=Q0.cell 0 _ rfl;have z0:=Q0.fz 0 dC;clear hl1 hsq;go_wp2_with fail
  refine G1.mono ?_;rintro e w2 ⟨rfl,rfl⟩;clear G1;go_upto_region 3 with fail
  have Q1:=Q0.set1 0 sq dC;have P2:=P1.otherC bs 0 sq oM;have V2:=V1.putB (o:=0) (v := .int .i64 sq) (Nat.le_refl bs);have B2:Below w w (w1.setCell ⟨bs,0,none⟩ sq):=Below.setCell B1 GJ _;have q2l:bs<(w1.setCell ⟨bs,0,none⟩ sq).heap.size:=by simpa using q1l
  generalize w1.setCell ⟨bs,0,none⟩ sq=w2 at Q1 P2 V2 B2 q2l ⊢;clear Q0 P1 V1 B1 q1l q0 z0;have hl1:=H128.out;have G1:=NA _ xs 4 3 w2 (V2.mono oM) oM oM oM oM;rw [← hep] at G1;have q1:=Q1.cell 1 _ rfl;have z1:=Q1.fz 1 EM;clear hl1 hep;go_wp2_with fail
  refine G1.mono ?_;rintro e w3 ⟨rfl,rfl⟩;clear G1;go_upto_region 4 with fail
  have Q2:=Q1.set1 1 ep EM;have P3:=P2.otherC bs 1 ep oM;have V3:=V2.putB (o:=1) (v := .int .i64 ep) (Nat.le_refl bs);have B3:Below w w (w2.setCell ⟨bs,1,none⟩ ep):=Below.setCell B2 GJ _;have q3l:bs<(w2.setCell ⟨bs,1,none⟩ ep).heap.size:=by simpa using q2l
  generalize w2.setCell ⟨bs,1,none⟩ ep=w3 at Q2 P3 V3 B3 q3l ⊢;clear Q1 P2 V2 B2 q2l q1 z1;have hl1:=H128.out;have G1:=NA _ xs 7 1 w3 (V3.mono oM) oM oM oM oM;rw [hn7] at G1;clear hl1 hn7;go_wp2_with fail
  refine G1.mono ?_;rintro e w4 ⟨rfl,rfl⟩;clear G1;by_cases h7:x7.toNat≤100;rotate_left
  ·have Vb:Ar w3 w3 (.slice none 0 0) []:=VS.nil _ _;obtain ⟨w2,hw2⟩:∃ w2,w2=w3:=⟨_,rfl⟩;subst hw2;have P1:=P3;have P2:=Q2;have V2:=V3;have B2:=B3;obtain ⟨p0,p1,p2⟩:=P2.c3;clear P3 Q2 V3 B3
   cases hok:DD ⟨sq,ep,([]:List UInt8)⟩ with
   | true =>
    obtain ⟨⟨hs1,hs2⟩,⟨hs3,hs4⟩,hs5⟩:=NG hok;have C3:=VW sq ep _ ([]:List UInt8) w2 Vb Ry Rz R1 hs5;have B7L:=trivial;exact UE
   | false =>
    have C3:=Xu sq ep _ ([]:List UInt8) w2 Vb hok;have hres:Hid (Ca xs=none):=QZ Nm;have B42:=trivial;exact nj
  obtain ⟨bd,hbd⟩:∃ l,l=part xs 8 x7.toNat:=⟨_,rfl⟩;have Vp:=Ar.part V3 (lo:=8) (m:=x7.toNat) oM;have hbl:bd.length=x7.toNat:=by rw [hbd,YY KI]
  rw [← hbd] at Vp;have HS:Hid (EZ xs=⟨sq,ep,bd⟩):=by unfold Hid EZ;rw [HB7.out,HSQ.out,HE.out,← hbd]
  have HBL:=lH hbl;have V4:=V3.keepB (bA w3 [] 5) oM;have hz34:w3.heap.size≤(w3.alloc (.cells #[] 5)).heap.size:=Aj _ _;have Vq:=(Vp.keepB (bA w3 [] 5) oM).mono (show bs≤(w3.alloc (.cells #[] 5)).heap.size by omega);have hm:8+x7.toNat - 8=x7.toNat:=AA;have Vq:Ar (w3.alloc (.cells #[] 5)) (w3.alloc (.cells #[] 5)).heap.size (.slice (some ⟨g,off+8,none⟩) (8+x7.toNat - 8) (c - 8)) bd:=by rw [hm];exact Vq
  clear hbd hbl Vp V4 hm;go_wp2_with (at_builtin;refine Da Dd Tryz.underlying161 rfl dC dC De Ed rfl _ _ rfl w3 (.slice (some ⟨w3,0,none⟩) 0 0) [] rfl (AC.made w3 w3 (Nat.le_refl _)) _ bd rfl Vq sM (by have:=HBL.out;omega) hz34 ?_)
  intro v5 w5 O5 b5 g5;have O5:AK w5 w3 v5 bd:=O5;have b5:Below w3 w3 w5:=(Ae (Below.refl w3 w3) _).trans b5;obtain ⟨a1,cp1,rfl,-⟩:=AK.form O5;have Q5:=Q2.keepL b5 q3l;have P5:=P3.keepL b5 oM;have V5:=V3.keepB b5 oM;have B5:Below w w w5:=B3.trans (b5.mono oM);have z35:=b5.size;have q2:=Q5.cell 2 _ rfl;have y2:=Q5.fz 2 dR;clear Vq Q2 P3 V3 B3 b5 g5 hz34;go_upto_region 7 with fail
  have Q6:=Q5.set1 2 (.slice a1 bd.length cp1) dR;have P6:=P5.otherC bs 2 (.slice a1 bd.length cp1) oM;have V6:=V5.putB (o:=2) (v := .slice a1 bd.length cp1) (Nat.le_refl bs);have O6:=O5.putB (o:=2) (v := .slice a1 bd.length cp1) (show bs<w3.heap.size by omega);have B6:Below w w (w5.setCell ⟨bs,2,none⟩ (.slice a1 bd.length cp1)):=Below.setCell B5 GJ _;have q6l:w3.heap.size≤(w5.setCell ⟨bs,2,none⟩ (.slice a1 bd.length cp1)).heap.size:=by simpa using z35
  generalize w5.setCell ⟨bs,2,none⟩ (.slice a1 bd.length cp1)=w2 at Q6 P6 V6 O6 B6 q6l ⊢;have O2:AK w2 w3 (.slice a1 bd.length cp1) bd:=O6;have Vb:=O2.vs;have P1:=P6;have P2:=Q6;have V2:=V6;have B2:=B6;obtain ⟨p0,p1,p2⟩:=P2.c3;clear Q5 P5 V5 O5 B5 q2 y2 Q6 P6 V6 O6 B6 z35
  cases hok:DD ⟨sq,ep,bd⟩ with
  | true =>
   obtain ⟨⟨hs1,hs2⟩,⟨hs3,hs4⟩,hs5⟩:=NG hok;have C3:=VW sq ep _ bd w2 Vb Ry Rz R1 hs5;exact UE
  | false =>
   have C3:=Xu sq ep _ bd w2 Vb hok;exact ni
 |obtain ⟨bd,hbd⟩:∃ l,l=part xs 8 x7.toNat:=⟨_,rfl⟩;have G1:=LG _ xs 1 3 w0 V0 oM oM KI KI;have G2:=LG _ xs 4 3 w0 V0 oM oM KI KI;have Vp:=Ar.part V0 (lo:=8) (m:=x7.toNat) oM;have hbl:bd.length=x7.toNat:=by rw [hbd,YY KI]
  rw [← hsq] at G1;rw [← hep] at G2;rw [← hbd] at Vp;have HS:Hid (EZ xs=⟨sq,ep,bd⟩):=by unfold Hid EZ;rw [HB7.out,← hsq,← hep,← hbd]
  have HBL:=lH hbl;clear hsq hep hbd hbl;have C1:=QA _ bd w0 Vp (by have:=HBL.out;omega);go_wp2_with fail
  refine G1.mono ?_;rintro e w1 ⟨rfl,rfl⟩;go_wp2_with fail
  refine G2.mono ?_;rintro e w1 ⟨rfl,rfl⟩;clear G1 G2;go_wp2_with fail
  refine C1.mono ?_;rintro e w1 ⟨⟨v1,rfl,O1⟩,b1⟩;obtain ⟨a1,cp1,rfl,-⟩:=AK.form O1;have P1:=P0.keep b1;have V1:=V0.keep b1;have B1:=AD b1 B0;clear r0 r1 r2 z0 z1 z2 c70 V0 P0 Vp C1;go_upto_region 6 with fail
  refine cW fun w2 P2 b2 => ?_;have hw0:=P0l;have O2:=O1.keep b2;have Vb:=O1.vs.keep b2;have P1:=P1.keep b2;have V2:=V1.keep b2;have B2:=AD b2 B1;clear V1 B1 O1 b1 b2;obtain ⟨p0,p1,p2⟩:=P2.c3
  cases hok:DD ⟨sq,ep,bd⟩ with
  | true =>
   obtain ⟨⟨hs1,hs2⟩,⟨hs3,hs4⟩,hs5⟩:=NG hok;have C3:=uX sq ep _ bd w2 Vb Ry Rz R1 hs5;have B73:=trivial;exact UE
  | false =>
   have C3:=we sq ep _ bd w2 Vb hok;have B43:=trivial;exact ni):p:=h
theorem UW(h:p:=by
 have e1:(x.tw == ch)=true:=BG;have hi:Hid (((b.circles.take (k+1)).map (Bu ch)).sum=U2+x.amt):=Rt
 first
 |clear C4P
  exact Ox
 |exact Oi):p:=h
theorem UZ(h:p:=by
 have e1:(x.inn == ch)=true:=BG;have hi:Hid (((b.htlcs.take (k+1)).map (Bb ch)).sum=U+x.ain):=Rs
 first
 |clear C4R
  exact Ox
 |exact Oi):p:=h
theorem rz(h:p:=by
 have hB5:=AD b5 hB;have ho5:AC Cn.enc 7 182 w5 w2 (.slice ao KK.length co) KK:=AC.keep ho b5
 first
 |clear C4S
  have hQ5:=hQ.keep b5;have e2:=(PE.keep hB5).cell 2 _ rfl;have d0:=P5.cell 0 _ rfl;have hB6:=hB5;have ho6:=ho5;have hQ6:=hQ5;have P6:=P5;clear c0 c1 c2 c3 c4 c5 c6 ho hQ hB hg1 b5
  cases d with
  | true =>
   have C4T:=trivial;exact Uc
  | false =>
   by_cases hlx:ch<x0;rotate_left
   ·have e1:decide (ch<x0)=false:=decide_eq_false hlx;have C4U:=trivial;exact Uc
   have e1:decide (ch<x0)=true:=decide_eq_true hlx;obtain ⟨K1,hE1⟩:∃ l,l=KK ++ [(⟨ch,am+fe,am,fe,0,0,0⟩:Cn)]:=⟨_,rfl⟩;obtain ⟨K2,hE2⟩:∃ l,l=K1 ++ [(⟨x0,x1,x2,x3,x4,x5,x6⟩:Cn)]:=⟨_,rfl⟩;(have hKK2:Hid (EQ (⟨ch,am+fe,am,fe,0,0,0⟩:Cn) true (b.chans.take (k+1)) K2):=by unfold Hid;rw [ht.out,hE2,hE1];exact zM (c:=(⟨ch,am+fe,am,fe,0,0,0⟩:Cn)) (x:=(⟨x0,x1,x2,x3,x4,x5,x6⟩:Cn)) hKK.out hlx);have HE1:=lH hE1;have HE2:=lH hE2;have hl1:K1.length≤k+2:=by rw [hE1,List.length_append];simp;omega
   have hk0:KK.length≤k:=by
    rcases hKK.out with ⟨-,-,h⟩ | ⟨h,-⟩
    ·rw [h,List.length_take];omega
    cases h
   (have hl2:K2.length≤k+1+1:=by rw [hE2,List.length_append,hE1,List.length_append];simp;omega);clear hx ht hE1 hE2 hlx;(go_upto_region 10 with fail);have C2u:=trivial;exact gO
 |have e2:=(PE.keep hB5).cell 2 _ rfl;obtain ⟨d0,d1,d2,d3,d4,d5,d6⟩:=P5.c7;clear c0 c1 c2 c3 c4 c5 c6 ho hB b5 hg1;by_cases hkx:x0=ch
  ·have e1:(x0 != ch)=false:=Ih;have hKK2:Hid (KK=(b.chans.take (k+1)).filter (fun c => !decide (c.id=ch))):=SP;clear hx ht hkx;go_wp2;go_roundw
   case rel=>exact ⟨k+1,_,KK,AA,Ab,rfl,ho5,hKK2,AA,hB5⟩
   case measure=>simp only [intOf];omega
  have e1:(x0 != ch)=true:=Ih;exact Uc):p:=h
theorem Rk(h:p:=by
 obtain ⟨a0,n,cp0,rfl,hn1,-,hn,hnm,-⟩:=V.cells.at_;obtain ⟨a1,m,cp1,rfl,hm1,-,hm,hmm,-⟩:=V.dirty.at_
 first
 |clear B0P
  have hnB:n≤9223372036854775807:=by unfold maxLen at hnm;omega
  have hmB:m≤9223372036854775807:=by unfold maxLen at hmm;omega
  have HN:=lH hn;have HM:=lH hm;clear hn hm hnm hmm;have P0:=bN w [.slice a0 n cp0, .slice a1 m cp1] 47;have B0:=bA w [.slice a0 n cp0, .slice a1 m cp1] 47;by_cases h1:1≤n∧n≤600;rotate_left
  first
  |clear A3K
   ·have hno:Hid (BO d=false):=cS;rcases (show n<1∨600<n by omega) with h3 | h3
    all_goals
     clear h1
     go_enter Tryz.func57,Tryz.ntmps57
     go_wp2
     go_ret
     exact ⟨Ag If,B0⟩
   by_cases h2:m≤600;rotate_left
   ·have hno:Hid (BO d=false):=cT;obtain ⟨h3,h4⟩:=h1;(go_enter Tryz.func57,Tryz.ntmps57);go_wp2;go_ret;exact ⟨Ag If,B0⟩
   have B8u:=trivial;exact rO
  |·have hno:Hid (BO d=false):=cS;rcases (show n<1∨600<n by omega) with h3 | h3
    all_goals
     clear h1
     go_enter Tryz.func48,Tryz.ntmps48
     go_wp2
     go_ret
     exact ⟨Ag If,B0⟩
   by_cases h2:m≤600;rotate_left
   ·have hno:Hid (BO d=false):=cT;obtain ⟨h3,h4⟩:=h1;(go_enter Tryz.func48,Tryz.ntmps48);go_wp2;go_ret;exact ⟨Ag If,B0⟩
   exact rO
 |have P0:=bN w [.slice a0 n cp0, .slice a1 m cp1] 47;have B0:=bA w [.slice a0 n cp0, .slice a1 m cp1] 47;by_cases h1:n=0;rotate_left
  first
  |clear A4t
   ·have C2L:=trivial;exact sb
   have B8o:=trivial;exact rH
  |·exact sb
   exact rH):p:=h
theorem gM(h:p:=by
 obtain ⟨oo,hoo⟩:∃ n,n=BJ b ci:=⟨_,rfl⟩;obtain ⟨ii,hii⟩:∃ n,n=BU b ci:=⟨_,rfl⟩
 first
 |clear A7L
  simp only [← hoo] at CO hbo;simp only [← hii] at CI hbi;have HOO:=lH hoo;have HII:=lH hii;have hw1:IntKind.i64.wrap (cl+cr)=cl+cr:=Ao;have hw2:IntKind.i64.wrap (cl+cr+oo)=cl+cr+oo:=Ao;have hw3:IntKind.i64.wrap (cl+cr+oo+ii)=cl+cr+oo+ii:=Ao;clear hbz hoo hii;by_cases hsum:cz=cl+cr+oo+ii
  first
  |clear B5b
   ·have e9:(cl+cr+oo+ii != cz)=false:=Li;exact sW
   exact gU
  |·have e9:(cl+cr+oo+ii != cz)=false:=Li;exact UQ
   exact gU
 |rw [← hoo,← hii] at CT;rw [← hoo] at hbo;rw [← hii] at hbi;have HOO:=lH hoo;have HII:=lH hii;clear hoo hii;go_wp2_with fail
  refine CT.mono ?_;rintro e w7 ⟨rfl,b7⟩;have P7:=P6.keep b7;have hB7:=AD b7 hB6;have hBw7:=AD b7 hBw6;clear CT p0 p1 p2 p3 p4 p5 x0 hB6 hBw6 b7 P6 PX6 V6;have x1:=P7.cell 1 _ rfl;have x2:=P7.cell 2 _ rfl;have x3:=P7.cell 3 _ rfl;by_cases hsum:cz=cl+cr+oo+ii
  first
  |clear B5a
   ·have e9:(cz != cl+cr+oo+ii)=false:=Li;have C4M:=trivial;exact sW
   exact pC
  |·have e9:(cz != cl+cr+oo+ii)=false:=Li;have C4N:=trivial;exact UQ
   exact pC):p:=h
theorem Nd(h:p:=by
 obtain ⟨a0,n,cp0,rfl,hn1,-,hn,hmx,-⟩:=V.cells.at_;obtain ⟨a1,m,cp1,rfl,hm1,-,hm,-,-⟩:=V.dirty.at_
 first
 |clear A3v
  have HN:=lH hn;clear hn hm;go_enter Tryz.func118,Tryz.ntmps118
  have C1Q:=trivial;exact JP
 |clear hn hm
  first
  |clear A3x
   exact sQ
  |clear A3y
   (go_enter Tryz.func55,Tryz.ntmps55);have C1S:=trivial;exact JP
  |(go_enter Tryz.func46,Tryz.ntmps46);have C1T:=trivial;exact JP):p:=h
theorem lO(h:p:=by
 have hob:=AC.vs (ok:=fun _=>True) De ho (fun _ _=>trivial);obtain ⟨a2,n2,c2,rfl,-,-,-⟩:=hob
 first
 |clear B0i
  obtain ⟨y0,d0⟩:=hcl 0 dC
  first
  |clear B4b
   rw [show k*Bm.sz+0=k by show k*1+0=_;omega] at d0;have B8t:=trivial;exact rL
  |obtain ⟨y1,d1⟩:=hcl 1 dC;rw [show k*Cc.sz+0=k*2 by show k*2+0=_;omega] at d0;rw [show k*Cc.sz+1=k*2+1 from rfl] at d1;exact rL
 |go_wp2_with fail
  first
  |clear A2w
   refine bodyPost_ret (v := .agg #[.slice a2 n2 c2]) (by simp [results,Tryz.results221,go_sem, *]) rfl ?_;exact oS
  |refine bodyPost_ret (v := .agg #[n, .slice a2 n2 c2]) (by simp [results,Tryz.results222,go_sem, *]) rfl ?_;exact oS):p:=h
theorem oG(h:p:=by
 rintro e wc2 ⟨rfl,bc2⟩;have Bc2:Below w0 w0 wc2:=Below.trans Bc1 (Below.mono bc2 Bc1.size)
 first
 |clear B3M
  have Hc2:=H5.keep Bc2;have B6V:=trivial;exact qO
 |have Hc2:=H0.keep Bc2;exact qO):p:=h
theorem aB(h:p:=by
 obtain ⟨hlt,e⟩:=List.getElem?_eq_some_iff.1 hx;rw [List.drop_eq_getElem_cons hlt,e]
 first
 |done
 |rfl):p:=h
theorem NW(h:p:=by
 show BJ b x=_;exact Cx):p:=h
theorem Ot(h:p:=by
 rw [m2] at this;exact this):p:=h
theorem Z0(h:p:=by
 obtain ⟨a,c,e,-⟩:=AC.of (ok:=fun _=>True) h (fun _ _=>trivial);exact ⟨a,c,e⟩):p:=h
theorem ge(h:p:=by
 have HCD:Hid (cd=10):=ed;exact PR):p:=h
theorem bl(h:p:=by
 rintro e w' ⟨rfl,H',W'⟩;exact ⟨rfl,F,x,_,_,SJ,W',fun _=>⟨rfl,rfl⟩⟩):p:=h
theorem aO(h:p:=by
 rw [← HR.out];exact HO6.out.kept (F := [ob]) (LB) (fun b hb hm=>A5Z)):p:=h
theorem rT(h:p:=by
 refine bodyPost_ret dQ rfl ?_;exact Pe):p:=h
theorem Zk(h:p:=by
 rintro e w' ⟨⟨u,us,rfl,h⟩,hb⟩;exact ⟨⟨_,u,rfl,us,h,rfl⟩,hb⟩):p:=h
theorem jv(h:p:=by
 refine bodyPost_ret dX rfl ?_;exact Pe):p:=h
theorem pO(h:p:=by
 refine bodyPost_ret Rx rfl ?_;exact Pe):p:=h
theorem tG(h:p:=by
 have:(w'.setCell ⟨g,4,none⟩ v').heap.size=w'.heap.size:=AP
 omega):p:=h
theorem tI(h:p:=by
 have:(w'.setCell ⟨g,5,none⟩ v').heap.size=w'.heap.size:=AP
 omega):p:=h
theorem Yx(h:p:=by
 have:(xs.length+sl)*nb≤2199023256*64:=Nat.mul_le_mul oM hnb
 omega):p:=h
theorem UT(h:p:=by
 rw [IntKind.wrap_i64];omega):p:=h
theorem sd(h:p:=by
 refine bodyPost_ret aD rfl ?_;exact ⟨⟨_,rfl,dU⟩,B6⟩):p:=h
theorem sy(h:p:=by
 rw [k2,decide_eq_true oM,decide_eq_true oM,decide_eq_true oM];rfl):p:=h
theorem se(h:p:=by
 refine bodyPost_ret aE rfl ?_;exact ⟨⟨_,rfl,dU⟩,B6⟩):p:=h
theorem sY(h:p:=by
 unfold Hid;exact Fi (GF hx.out (Fv oM))):p:=h
theorem C4V(h:p:=by
 have h1:=hEb.out y hy;exact ⟨h1.1.1,h1.1.2,Nt⟩):p:=h
theorem tD(h:p:=by
 obtain ⟨y,z,l,P,-,-⟩:=H5.cells;exact ⟨y,z,l,P⟩):p:=h
end
end Go.Proofs.YtahefgkdbecemaaGreat
