/- The walks and the laws they lean on. -/
import Derived.Test.YtahefgkdbecemaaGreatQ0
import GoSem.Claim
import GoSem.ClaimJoined
import GoSem.ClaimMapViews
import Derived.JoinedTies
import Derived.KernelRfl
import Derived.WalkKit
import Derived.WalkSpells
import Derived.WalkLawsBesides
import Derived.IntWalk
import Derived.BigQuiet
import Derived.Deep.QuietTactic
import Derived.Lib.Hide
import Derived.Laws.AppendOwnNone
import Derived.Maps.AppendAt
import Derived.Lib.AtoiErrMem
import Derived.Deep.MidRow
import Derived.OrdersHeld
import Derived.Deep.RegionHeld3
import Derived.Laws.BitsAllLaws
import Derived.Lib.ItoaNum
import Derived.Deep.CutBlock
import Derived.Deep.DeepCutAuto
import Derived.Laws.MathBits
import Derived.Deep.RegionWith
import Derived.Laws.OwnMore
import Derived.Deep.RegionLaw
import Derived.Laws.IdiomStrings
import Derived.BigRegion
import Derived.ProofKit
import Derived.OpenShut
import Derived.ShutString
import Derived.ChangeOld
import Derived.Below
import Derived.Lib.SmallJoins
import Derived.Deep.Fields
import Derived.Deep.Slices
namespace Go.Proofs.YtahefgkdbecemaaGreat
open Go.RowKit
set_option linter.unusedVariables false
set_option linter.unusedSimpArgs false
set_option maxRecDepth 100000
set_option maxHeartbeats 12800000
section
variable {p:Prop}
theorem TK(h:p:=by
 have BD:Below w0 w0 w0.drew:=Below.drew (Below.refl _ _);have HD:=H0.keep BD;have PD:=P0.keep BD;have D7:=PD.cell 7 _ rfl;have DF:=PD.fz 7 AF;have D_ue:=PE.keep BD
 first
 |clear B3o
  have D_uc:=Q.keep BD;obtain ⟨ds0,ds1,ds2,ds3,ds4,ds5⟩:=PD.c6;have due2:=D_ue.cell 2 _ rfl;have due5:=D_ue.cell 5 _ rfl;have duc2:=D_uc.cell 2 _ rfl;go_cut [45] (fun v wq=>v = .bool (cd != 0)∧Wk F (.slice (some ⟨gx,0,none⟩) n cx) wq g B b [] cd∧Wf g F F w0 wq)
  case first =>
   cases q7 with
   | true =>
    (have HCD:Hid (cd=7):=by unfold Hid;rw [HC.out,HH.out];cases decide (A.loc<fe)<;>rfl);have B3p:=trivial;exact Sf
   | false =>
    by_cases h8:A.loc<fe;rotate_left
    ·have e8:decide (A.loc<fe)=false:=decide_eq_false h8;clear h8;(have HCD:Hid (cd=0):=by unfold Hid;rw [HC.out,HH.out];rw [e8];rfl);have B3q:=trivial;exact Sf
    have e8:decide (A.loc<fe)=true:=decide_eq_true h8;clear h8;(have HCD:Hid (cd=8):=by unfold Hid;rw [HC.out,HH.out];rw [e8];rfl);exact Sf
  case rest =>
   obtain ⟨rfl,H5,W2⟩:=hcut;obtain ⟨w2,hw2⟩:∃ x,x=wc:=⟨_,rfl⟩;subst hw2;have WX:=WX.trans W2;obtain ⟨PE,nE⟩:=W2.box PE nE;obtain ⟨Q,nQ⟩:=W2.box Q nQ;clear CU H0 V0 W2 P0 ds0 ds1 ds2 ds3 ds4 ds5 due2 due5 duc2 BD HD PD D7 DF D_ue D_uc;have B3r:=trivial;exact Tq
 |clear B0V
  obtain ⟨ds0,ds1,ds2,ds3,ds4,ds5⟩:=PD.c6;have due1:=D_ue.cell 1 _ rfl;have due2:=D_ue.cell 2 _ rfl;have due3:=D_ue.cell 3 _ rfl
  first
  |clear B3s
   go_cut [40] (fun v wq=>v = .bool (c1 != 0)∧Wk F (.slice ax n cx) wq g B b [] c1∧Wf g F F w0 wq)
   case first =>
    cases q9 with
    | true =>
     (have HCX:Hid (c1=9):=by unfold Hid;rw [HC1.out];cases decide (20≤b.circles.length)<;>cases tw<;>rfl);exact eg
    | false =>
     cases tw with
     | false =>
      (have HCX:Hid (c1=6):=by unfold Hid;rw [HC1.out];cases decide (20≤b.circles.length)<;>rfl);have B1o:=trivial;exact OD
     | true =>
      by_cases h20:q=20;rotate_left
      ·have e20:((q:Int) == 20)=false:=An;have E21:=lH (show decide (20≤b.circles.length)=false from decide_eq_false (by have:=HQ.out;have:=hb.pk.c20;omega));clear h20;have HCX:Hid (c1=0):=OA;have B3H:=trivial;exact OC
      have e20:((q:Int) == 20)=true:=An;have E21:=lH (show decide (20≤b.circles.length)=true from decide_eq_true KG);clear h20;have HCX:Hid (c1=14):=OA;have B3I:=trivial;exact OC
   case rest =>
    have B3t:=trivial;exact L8
  |go_cut [45] (fun v wq=>v = .bool (c1 != 0)∧Wk F (.slice ax n cx) wq g B b [] c1∧Wf g F F w0 wq)
   first
   |clear B3u
    case first =>
     cases q9 with
     | true =>
      have HCX:Hid (c1=9):=eb;exact eg
     | false =>
      cases tw with
      | false =>
       have HCX:Hid (c1=6):=ec;exact OD
      | true =>
       by_cases h20:m=60;rotate_left
       ·have B3v:=trivial;exact oO
       have B3w:=trivial;exact oP
    case rest =>
     have B3x:=trivial;exact L8
   |case first =>
     cases q9 with
     | true =>
      have HCX:Hid (c1=9):=eb;exact Tr
     | false =>
      cases tw with
      | false =>
       have HCX:Hid (c1=6):=ec;exact Tr
      | true =>
       by_cases h20:m=60
       ·exact oP
       exact oO
    first
    |clear A42
     case rest =>
      have B3y:=trivial;exact L8
    |case rest =>
      exact L8
 |obtain ⟨ds0,ds1,ds2,ds3,ds4,ds5⟩:=PD.c6;have due2:=D_ue.cell 2 _ rfl;have due4:=D_ue.cell 4 _ rfl;go_cut [55] (fun v wq=>v = .bool (cd != 0)∧Wk F (.slice ax n cx) wq g B b [] cd∧Wf g F F w0 wq)
  case first =>
   cases okv with
   | false =>
    (have hb1:decide (1125899906842624<am+fe)=true:=by have:=HOK.out;simpa using this);have HB1:=lH hb1;clear hb1;(have HCD:Hid (cd=2):=by unfold Hid;rw [HC.out];rw [HB1.out];cases AI b.chans ch || decide (20≤b.chans.length)<;>cases decide (b.wallet<am)<;>rfl);have B3z:=trivial;exact Lw
   | true =>
    (have hb1:decide (1125899906842624<am+fe)=false:=by have:=HOK.out;simpa using this);have HB1:=lH hb1;clear hb1
    cases hh:AI b.chans ch with
    | true =>
     obtain ⟨i,_,hi,-⟩:=EH hh;rw [hi] at CA;have HH:=lH hh;clear hi hh;(have HCD:Hid (cd=3):=by unfold Hid;rw [HC.out];rw [HB1.out,HH.out];cases decide (b.wallet<am)<;>rfl);have B30:=trivial;exact Lw
    | false =>
     rw [IW hh] at CA;have HH:=lH hh;clear hh;by_cases h20:n=20
     ·have e20:((n:Int) == 20)=true:=An;have e21:decide (20≤b.chans.length)=true:=decide_eq_true Cb;have E21:=lH e21;clear h20 e21;(have HCD:Hid (cd=3):=by unfold Hid;rw [HC.out];rw [HB1.out,HH.out,E21.out];cases decide (b.wallet<am)<;>rfl);have B31:=trivial;exact Lw
     have e20:((n:Int) == 20)=false:=An;have e21:decide (20≤b.chans.length)=false:=decide_eq_false Cb;have E21:=lH e21;clear h20 e21;by_cases hwl:b.wallet<am;rotate_left
     ·have ew:decide (b.wallet<am)=false:=decide_eq_false hwl;clear hwl;have HCD:Hid (cd=0):=eZ;have B3N:=trivial;exact Lw
     have ew:decide (b.wallet<am)=true:=decide_eq_true hwl;clear hwl;have HCD:Hid (cd=4):=eZ;exact Lw
  case rest =>
   have B32:=trivial;exact L8):p:=h
theorem Ts(h:p:=by
 rintro e w3 ⟨rfl,hb⟩;exact Ly):p:=h
theorem oQ(h:p:=by
 refine ET kR kR ?_;repeat (go_big_quiet_step (first | (go_at_call 135;exact Calls.grew_of (ACC _)) | (go_at_call 124;exact Calls.grew_of_same (INR _)) | (go_at_call 274;exact Calls.grew_of (LES _))))
 have B33:=trivial;exact El):p:=h
theorem oR(h:p:=by
 refine ET kR kR ?_;repeat (go_big_quiet_step (first | (go_at_call 133;exact Calls.grew_of (ACC _)) | (go_at_call 299;exact Calls.grew_of_same (INR _)) | (go_at_call 254;exact Calls.grew_of (LES _))))
 have B34:=trivial;exact El):p:=h
theorem oS(h:p:=by
 refine ⟨⟨_,rfl,?_⟩,bW⟩;refine AC.le (AC.kept ho (F := [w,w.heap.size+1,w.heap.size+2]) (LB) (fun k hk hm => ?_)) (by simp only [World.size_alloc];omega);have h3:=(ho.blk k hk).1;simp only [World.size_alloc] at h3;simp only [List.mem_cons,List.not_mem_nil,or_false] at hm;omega):p:=h
theorem oT(h:p:=by
 unfold BS Bb;by_cases e1:x=H.inn
 ·exact ZP
 by_cases e2:x=H.out
 ·exact ZQ
 exact NY):p:=h
theorem oU(h:p:=by
 rintro e w1 ⟨rfl,rfl⟩;cases hT2:AH all
 ·have hno:Hid (Cz size few all sf sa amt good=0):=by
   unfold Hid Cz;rw [if_pos (by rw [HhT0.out,HhT1.out,hT2];simp)]
  clear hT2;exact Ik
 have HhT2:=lH hT2;clear hT2;go_wp2_with fail
 first
 |clear B35
  refine (Az amt _).mono ?_;exact fa
 |refine (BP amt _).mono ?_;exact fa):p:=h
theorem Og(h:p:=by
 have H5:=FK;have PE:=PE';have nE:=nE';have Q:=Q';have nQ:=nQ';have WX:=WX'
 first
 |clear B36
  clear FK PE' nE' Q' nQ' WX';exact nw
 |clear B2D
  clear FK PE' nE' Q' nQ' WX' cA zA;have LI:=LsIn.nil
  first
  |clear B00
   have B37:=trivial;exact nD
  |have B38:=trivial;exact nF
 |clear B2L
  first
  |clear A9C
   clear FK PE' nE' Q' nQ' WX' p2 zr c5 x2 PP;have LI:=LsIn.nil;have c5:=PE.cell 5 _ rfl;have x2:=Q.cell 2 _ rfl;obtain ⟨hg,LI⟩:=LsIn.add LI (x:=⟨1,0,A.loc - fe⟩) sM Cq uL sM;go_wp2_with fail
   first
   |clear B39
    refine (DJ _ _ g B _ _ 0 1 0 (A.loc - fe) _ H5 hg).mono ?_;have B4A:=trivial;exact lY
   |refine (DK _ _ g B _ _ 0 1 0 (A.loc - fe) _ H5 hg).mono ?_;exact lY
  |clear B0s
   clear FK PE' nE' Q' nQ' WX' cA zA x3;have LI:=LsIn.nil
   first
   |clear B4B
    have B4C:=trivial;exact oV
   |have x1:=Q.cell 1 _ rfl;have x3:=Q.cell 3 _ rfl;have x4:=Q.cell 4 _ rfl;obtain ⟨hg,LI⟩:=LsIn.add LI (x:=⟨6,q1,q3+q4⟩) sM Cq uL sM;(go_wp2_with fail);refine (DJ _ _ g B _ _ 0 6 q1 (q3+q4) _ H5 hg).mono ?_;exact Im
  |clear B4D
   clear FK PE' nE' Q' nQ' WX' cA zA x4;have ai2:=Fw (ch:=q2) (f:=(AO 0 q4)) (LE (ch:=q1) (f:=(AO q3 0)) ai aid) Nz;have CS:=fun w=>xu a.score w aok.2.2.2.2.2.2;have B4E:=trivial;exact Tt
  |clear FK PE' nE' Q' nQ' WX' cA zA x4;have ai2:=Fw (ch:=q2) (f:=(AO q4 0)) (LE (ch:=q1) (f:=(AO 0 q3)) ai aid) Nz;have CS:=fun w=>yW a.score w aok.2.2.2.2.2.2;have B4F:=trivial;exact Tt
 |first
  |clear B1h
   clear FK PE' nE' Q' nQ' WX' cA zA x3 x4
   first
   |clear B4G
    have di2:=Fw (ch:=q1) (f:=(AO 0 (q3+q4))) di Ny;(go_upto_region 10 with fail);have B4H:=trivial;exact oW
   |have di2:=Fw (ch:=q1) (f:=(AO (q3+q4) 0)) di Ny;(go_upto_region 14 with fail);have B4I:=trivial;exact oX
  |clear FK PE' nE' Q' nQ' WX' cA zA x3
   first
   |clear B4J
    have di2:=Fw (ch:=q1) (f:=(AO q3 0)) di Ny;(go_upto_region 10 with fail);exact oX
   |have di2:=Fw (ch:=q1) (f:=(AO 0 q3)) di Ny;(go_upto_region 15 with fail);exact oW):p:=h
theorem Nc(h:p:=by
 obtain ⟨a',n',c',e,-,-,F⟩:=h;have B4K:=trivial;exact DL):p:=h
theorem oY(h:p:=by
 have hgo:Hid (DT [] KK=DT (KK.take (k+1)) (KK.drop (k+1))):=by unfold Hid;rw [hstep.out,HJ.out,hi];rfl
 clear hi hstep;go_wp2;go_roundw
 case rel=>exact ⟨k+1,AA,Ab,hgo,by first | rfl | trivial⟩
 case measure=>simp only [intOf];omega):p:=h
theorem oZ(h:p:=by
 rintro e w1 ⟨rfl,rfl⟩;cases hT1:AH few
 ·have hno:Hid (Cz size few all sf sa amt good=0):=by
   unfold Hid Cz;rw [if_pos (by rw [HhT0.out,hT1];simp)]
  clear hT1;exact Ik
 have HhT1:=lH hT1;clear hT1;go_wp2_with fail
 first
 |clear B4L
  refine (Az all _).mono ?_;have B35:=trivial;exact oU
 |refine (BP all _).mono ?_;exact oU):p:=h
theorem B4M(h:p:=by
 have hno:Hid (Bd h=false):=Ew (fun e=>by
  have e2:=e.2.2.2.1
  rw [← HRN.out] at e2;exact of_decide_eq_false hT3 e2)
 have t3:((rn:Int) != h.log.next)=true:=by have:=of_decide_eq_false hT3;simpa using this
 clear hT3;exact FZ):p:=h
theorem Zz(h:p:=by
 rintro e w1 ⟨rfl,rfl⟩;cases hT0:AH size
 ·have hno:Hid (Cz size few all sf sa amt good=0):=by
   unfold Hid Cz;rw [if_pos (by rw [hT0];simp)]
  clear hT0;exact Ik
 have HhT0:=lH hT0;clear hT0;go_wp2_with fail
 first
 |clear A3X
  refine (Az few _).mono ?_;have B4L:=trivial;exact oZ
 |refine (BP few _).mono ?_;exact oZ):p:=h
theorem ef(h:p:=by
 have h2r:¬ u2=ur:=fun e=>by have:=RB.lt;omega
 have h2p:¬ u2=up:=fun e=>by have:=RP.lt;omega
 have h2g:¬ u2=g:=fun e=>AA;have hr2:¬ ur=u2:=fun e=>h2r e.symm;have hp2:¬ up=u2:=fun e=>h2p e.symm;have hg2:¬ g=u2:=fun e=>h2g e.symm
 first
 |clear A6M
  have FH:=H7.keep b9;have FR:=RB.keep b9;have FP:=RP.keep b9;have FQ:=PQ.keep b9;have FB:=Below.trans BX (Below.mono b9 BX.size);clear H7 RB RP PQ BX q1 q6 b9 hu2 hgl8;exact od
 |have H8:=H7.keep b9;have PB:=PB.keep b9;have RB:=RB.keep b9;have RP:=RP.keep b9;have PQ:=PQ.keep b9;have BX:=Below.trans BX (Below.mono b9 BX.size);have q6:=PQ.cell 6 _ rfl;clear H7 b9 hu2 q7;by_cases hl:ls7 = []
  ·have B4N:=trivial;exact mW
  exact mX):p:=h
theorem lF(h:p:=by
 simp only [World.setCells,Nat.zero_add,Nat.reduceAdd] at FQ FO FB;clear hx ht hnb hkx FX hQ5 ho5 P5;go_wp2;go_roundw
 case rel=>exact ⟨k+1,_,KK,_,AA,Ab,rfl,FO,hun,hKK2,AA,hsl,FQ,FB⟩
 case measure=>simp only [intOf];omega):p:=h
theorem oe(h:p:=by
 rintro e w1 ⟨rfl,rfl⟩;cases hT0:AH b.tick
 ·have hno:Hid (Ak b=false):=by
   unfold Hid Ak;rw [hT0];simp
  exact L9
 have HhT0:=lH hT0;clear hT0;go_wp2_with fail
 first
 |clear B4O
  refine (Az b.wallet _).mono ?_;have B4P:=trivial;exact og
 |refine (BP b.wallet _).mono ?_;exact og):p:=h
theorem oh(h:p:=by
 obtain ⟨va,vc,rfl,hvc⟩:=AK.form ho;obtain ⟨zs,hzs⟩:∃ zs,zs=xs ++ ys:=⟨_,rfl⟩;have hzl:zs.length≤1048600:=by rw [hzs,List.length_append];omega
 rw [← hzs] at ho ⊢;have HZ:=lH hzs;have HBT:=lH hbt
 first
 |clear B4Q
  clear hzs hbt;go_wp2_with (at_builtin;refine Df Dd Tryz.underlying161 rfl dC dC De Ed rfl _ _ rfl B _ zs rfl (ho.alloc _) _ b rfl (BC _ _ _ rfl) oM (Nat.le_trans hbB (Aj _ _)) ?_)
  intro v' w' own' hb' hg';have hb2:Below B w w':=(hb.trans ((Ae (Below.refl _ wr) _).mono hbB)).trans hb';exact lQ
 |clear hzs hbt hR;go_wp2_with fail
  refine (CQ _).mono ?_;rintro e w5 ⟨rfl,rfl⟩;clear CQ;go_wp2_with (at_builtin;refine Df Dd Tryz.underlying161 rfl dC dC De Ed rfl _ _ rfl w _ zs rfl (ho.alloc _) _ b rfl (BC _ _ _ rfl) oM (Nat.le_trans hbB (Aj _ _)) ?_)
  intro v' w' own' hb' hg';have hb2:Below w w w':=(hb.trans ((Ae (Below.refl _ wr) _).mono hbB)).trans hb';exact lQ):p:=h
theorem ol(h:p:=by
 have k3:¬ ((4294967296:Int)≤r+d1):=AA;clear hbig hq hr b1 b2 b3 b4 hbr hd0 hgt hp2;exact mE):p:=h
theorem om(h:p:=by
 rintro e wx ⟨⟨r5,rfl,hr⟩,rfl⟩;rcases hr with rfl | ⟨r5a,r5b,q5⟩
 ·exact Gw
 go_wp2_with fail
 go_ret;exact ⟨⟨_,rfl, .inr ⟨AA,AA,q1,q2,q3,q4,q5⟩⟩,bW⟩):p:=h
theorem jc(h:p:=by
 rw [Vh Bw b.htlcs EL] at HK;obtain ⟨y2,z2,l2,P2,V2,-⟩:=HK.cells;have p3:wr.cell? ⟨g,3,none⟩=some (.slice ax n2 c2):=P2.cell 3 _ rfl;have hn2B:=VS.lenB V2.chans;clear V2 p4 PT H1 W1 HM;go_wp2
 first
 |clear A8s
  go_loopw [4,5,47] (fun _ _ i wr=>∃ k:Nat,k≤n2∧i=k∧Wk F (.slice ax n2 c2) wr g B {b with tick:=b.tick+1,htlcs:=b.htlcs.map Bw,chans:=Cf (fun c=>if (b.tick+1) % 5=0 then Ef c else c) b.chans k} ls kd∧Wf g F F w wr) (fun _ _ i _=>n2 - (intOf i).toNat)
  case atStart=>exact ⟨0,Nat.zero_le _,rfl,by rw [MS];exact HK,WK⟩
  case round =>
   have B4R:=trivial;exact go
 |go_loopw [3,59] (fun _ i wr=>∃ k:Nat,k≤n2∧i=k∧Wk F (.slice ax n2 c2) wr g B {b with tick:=b.tick+1,htlcs:=b.htlcs.map Bw,chans:=Cf (fun c=>if (b.tick+1) % 5=0 then Ef c else c) b.chans k} ls 0∧Wf g F F w wr) (fun _ i _=>n2 - (intOf i).toNat)
  case atStart=>exact ⟨0,Nat.zero_le _,rfl,by rw [MS];exact HK,WK⟩
  case round =>
   exact go):p:=h
theorem oq(h:p:=by
 have PE:=bN w [.int .i64 9,ky,ch,tt,am,fe,ys] 73;have b0:=bA w [.int .i64 9,ky,ch,tt,am,fe,ys] 73;have B4S:=trivial;exact Jb):p:=h
theorem ot(h:p:=by
 have PE:=bN w [.int .i64 5,ky,ch,tt,am,fe,ys] 73;have b0:=bA w [.int .i64 5,ky,ch,tt,am,fe,ys] 73;exact Jb):p:=h
theorem nY(h:p:=by
 replace hT:=hTx;replace hs:X0.heap.size≤X3.heap.size:=Gr;have B4T:=trivial;exact Oa):p:=h
theorem eh(h:p:=by
 obtain ⟨i,h,h1,h2,h3,h4,h5⟩:=XR hh;rw [h4];have HK:=hb.pk.hs h (List.mem_of_getElem? h2);have B4U:=trivial;exact ou):p:=h
theorem ei(h:p:=by
 obtain ⟨i,h,h1,h2,h3,h4,h5⟩:=Vl hh;rw [h4];have HK:=hb.pk.cs h (List.mem_of_getElem? h2);exact ou):p:=h
theorem cM(h:p:=by
 refine cW fun w0 PH BX => ?_;obtain ⟨uh,huh⟩:∃ u,u=w.heap.size:=⟨_,rfl⟩;rw [← huh] at PH ⊢;have V0:=V.keep BX;clear V huh;have B4V:=trivial;exact KU):p:=h
theorem ov(h:p:=by
 have B4W:=trivial;exact Tu):p:=h
theorem jy(h:p:=by
 obtain ⟨rfl,rfl,rfl⟩:=hpp;clear hnr2;have hic:i≤cr2:=AA;have hi1':(0:Int)≤(i:Int)+1:=AA;have hi2':(i:Int)+1≤(nr2:Int):=AA;have hwi:IntKind.i64.wrap ((i:Int)+1)=(i:Int)+1:=Ao
 first
 |clear A9I
  have hfz:=P2.fz 4 AF;have hPl:=P2.lt;have VT:=fun w' (hw:Below w2 w2 w')=>VS.tk (VR.keep hw) (k:=i) oM;have VD:=fun w' (hw:Below w2 w2 w') (a':Option Addr) (ha:i+1<cr2→a'=some ⟨gr,0+(i+1)*7,none⟩)=>VS.drop (VR.keep hw) (k:=i+1) oM ha;go_cut [] (fun wq=>∃ F',Wk F' (.slice ax n cx) wq g B {b with htlcs:=L} [] 0∧Wf g F F' w2 wq)
  case first =>
   have OKS:=VR.oks;obtain ⟨L1,hL1⟩:∃ l,l=b.htlcs.take i:=⟨_,rfl⟩;obtain ⟨L2,hL2⟩:∃ l,l=b.htlcs.drop (i+1):=⟨_,rfl⟩;have B1H:=trivial;exact TZ
  first
  |clear B4X
   case rest =>
    have B4Y:=trivial;exact Sa
  |case rest =>
    exact Sa
 |have hfz:=P2.fz 5 AF;have hPl:=P2.lt;have VT:=fun w' (hw:Below w2 w2 w')=>VS.tk (VR.keep hw) (k:=i) oM;have VD:=fun w' (hw:Below w2 w2 w') (a':Option Addr) (ha:i+1<cr2→a'=some ⟨gr,0+(i+1)*5,none⟩)=>VS.drop (VR.keep hw) (k:=i+1) oM ha;go_cut [] (fun wq=>∃ F',Wk F' (.slice ax n cx) wq g B {b with circles:=L} [] 0∧Wf g F F' w2 wq)
  case first =>
   have OKS:=VR.oks;obtain ⟨L1,hL1⟩:∃ l,l=b.circles.take i:=⟨_,rfl⟩;obtain ⟨L2,hL2⟩:∃ l,l=b.circles.drop (i+1):=⟨_,rfl⟩;exact TZ
  first
  |clear B4Z
   case rest =>
    have B4a:=trivial;exact fU
  |case rest =>
    exact fU):p:=h
theorem ow(h:p:=by
 obtain ⟨hTx,exx,hZ⟩:=hTx;exact Tv):p:=h
theorem ox(h:p:=by
 go_upto_region 1 with fail
 generalize w.alloc (.cells #[.slice a0 0 cp0, .slice a1 m cp1] 47)=X0 at P0 B0 ⊢;obtain ⟨p0,p1⟩:=P0.c2;go_wp2;go_ret;exact ⟨Ag (by rw [hr2.out]),bW⟩):p:=h
theorem oy(h:p:=by
 go_upto_region 1 with fail
 generalize w.alloc (.cells #[.slice a0 0 cp0, .slice a1 0 cp1] 47)=X0 at P0 B0 ⊢;obtain ⟨p0,p1⟩:=P0.c2;go_wp2;go_ret;exact ⟨Ag R7,bW⟩):p:=h
theorem kq(h:p:=by
 injection e0 with e1 e2 e3
 subst e1;subst e2;subst e3;obtain ⟨g,off,x,u,rfl,hg,hok,hu,hc,hx,ht⟩:=hat k hlt;obtain ⟨a1,n1,cp1,hv,-,-,-⟩:=id hu;subst hv;have c0:=hc 0 _ rfl
 first
 |clear B0M
  first
  |clear A2y
   rw [show off+k*Bm.sz+0=off+k by show off+k*1+0=_;omega] at c0;clear hc hat hown1;(go_wp2_with fail);refine (tl _ x _ (hu.keep (bW)) (hbd.out x (List.mem_of_getElem? hx.out))).mono ?_;have B4b:=trivial;exact lN
  |have B4c:=trivial;exact Tw
 |first
  |clear B4d
   rw [show off+k*Bm.sz+0=off+k by show off+k*1+0=_;omega] at c0;clear hc hat;(go_wp2_with fail);refine (xe _ (x) _ _ (hu.keep (bW)) hz.1 oM).mono ?_;have B4e:=trivial;exact oz
  |exact Tw):p:=h
theorem pA(h:p:=by
 have P1:=P0.keep b1;have V1:=V0.keepB b1 (Nat.le_refl _);have B1:=AD b1 B0;have l1:=Q1.lt;obtain ⟨bs,hbs⟩:∃ n,n=w0.heap.size:=⟨_,rfl⟩;rw [← hbs] at Q1 V1 P0l l1 ⊢
 first
 |clear B4f
  clear P0 b1 V0 c1 c5 c6 c21 hg0 hbs B0;have hl1:=HN.out;have G1:=LG _ xs 2 3 w1 (V1.mono oM) oM oM oM oM;rw [← HKY.out] at G1;have q0:=Q1.cell 1 _ rfl;have z0:=Q1.fz 1 AF;exact Tb
 |clear P0 b1 V0 hbs B0;have G1:=Iy _ xs 1 1 w1 (V1.mono oM) oM oM oM Cb;have q0:=Q1.cell 0 _ rfl;have z0:=Q1.fz 0 AF;go_wp2_with fail
  refine G1.mono ?_;rintro e w2 ⟨⟨kd,gq,rfl,hkdb,Hkd⟩,rfl⟩;have hkdb:kd<256:=hkdb;clear G1;go_upto_region 3 with fail
  clear q0 z0;have Q2:=Q1.set1 0 kd AF;have P2:=P1.otherC bs 0 kd oM;have V2:=V1.putB (o:=0) (v := .int .i64 kd) (Nat.le_refl bs);have B2:Below w w (w1.setCell ⟨bs,0,none⟩ kd):=Below.setCell B1 GJ _;have l2:bs<(w1.setCell ⟨bs,0,none⟩ kd).heap.size:=JR;generalize w1.setCell ⟨bs,0,none⟩ kd=w2 at Q2 P2 V2 B2 l2 ⊢;have B1X:=trivial;exact JX):p:=h
theorem RQ(h:p:=by
 go_enter Tryz.func224,Tryz.ntmps224
 go_wp2;go_quiet (fail)
 exact L7):p:=h
theorem Oq(h:p:=by
 have BD:Below w0 w0 w0.drew:=Below.drew (Below.refl _ _);have HD:=H5.keep BD;have PD:=P0.keep BD;have D7:=PD.cell 7 _ rfl;have DF:=PD.fz 7 AF;have D_ue:=PE.keep BD
 first
 |clear B4g
  have D_ua:=UA.keep BD;have D_ud:=UD.keep BD;obtain ⟨ds0,ds1,ds2,ds3,ds4,ds5⟩:=PD.c6;have due4:=D_ue.cell 4 _ rfl;have due6:=D_ue.cell 6 _ rfl;obtain ⟨dua0,dua1,dua2,dua3,dua4,dua5,dua6⟩:=D_ua.c7;obtain ⟨dud0,dud1,dud2,dud3,dud4,dud5,dud6⟩:=D_ud.c7;go_cut [10] (fun v wq=>v=rv∧Below w0 w0 wq)
  case first =>
   refine wp_region_noPanic ?_;refine wp_region_held_drew (S:=fun w'=>w'.cell? ⟨g,0,none⟩=.some b.tick∧w'.cell? ⟨g,1,none⟩=.some b.next∧w'.cell? ⟨g,2,none⟩=.some b.wallet∧w'.cell? ⟨g,3,none⟩=some (.slice (some ⟨gx,0,none⟩) n cx)∧w'.cell? ⟨g,4,none⟩=some (.slice ay m cy)∧w'.cell? ⟨g,5,none⟩=some (.slice az q cz)∧w'.cell? ⟨ue,4,none⟩=.some am∧w'.cell? ⟨ue,6,none⟩=.some ys∧w'.cell? ⟨ua,0,none⟩=.some A.id∧w'.cell? ⟨ua,1,none⟩=.some A.size∧w'.cell? ⟨ua,2,none⟩=.some A.loc∧w'.cell? ⟨ua,3,none⟩=.some A.rem∧w'.cell? ⟨ua,4,none⟩=.some A.base∧w'.cell? ⟨ua,5,none⟩=.some A.ppm∧w'.cell? ⟨ua,6,none⟩=.some A.score∧w'.cell? ⟨ud,0,none⟩=.some D.id∧w'.cell? ⟨ud,1,none⟩=.some D.size∧w'.cell? ⟨ud,2,none⟩=.some D.loc∧w'.cell? ⟨ud,3,none⟩=.some D.rem∧w'.cell? ⟨ud,4,none⟩=.some D.base∧w'.cell? ⟨ud,5,none⟩=.some D.ppm∧w'.cell? ⟨ud,6,none⟩=.some D.score) kR ?_ (fun hHeld => ?_)
   ·exact Bc
   have B4h:=trivial;exact Gt
  first
  |clear B4i
   case rest =>
    have A7V:=trivial;exact gY
  |case rest =>
    exact gY
 |obtain ⟨ds0,ds1,ds2,ds3,ds4,ds5⟩:=PD.c6
  first
  |clear B4j
   have due3:=D_ue.cell 3 _ rfl;have dk0:=(by simpa using (HD.at di HDid.out hso).1 0 _ rfl);have dk1:=(HD.at di HDid.out hso).1 1 _ rfl;have dk2:=(HD.at di HDid.out hso).1 2 _ rfl;have dk3:=(HD.at di HDid.out hso).1 3 _ rfl;have dk4:=(HD.at di HDid.out hso).1 4 _ rfl;have dk5:=(HD.at di HDid.out hso).1 5 _ rfl;have dk6:=(HD.at di HDid.out hso).1 6 _ rfl;go_cut [5] (fun v wq=>∃ u,v = .pointer (some ⟨u,0,none⟩)∧w0.heap.size≤u∧Bx wq u [D.id,D.size,D.loc,D.rem,D.base,D.ppm,D.score]∧Below w0 w0 wq)
   case first =>
    as_aux_lemma =>
     refine wp_region_noPanic ?_;exact A6I
   first
   |clear B4k
    case rest =>
     have B4i:=trivial;exact ez
   |case rest =>
     exact ez
  |have due2:=D_ue.cell 2 _ rfl
   first
   |clear B4m
    have due3:=D_ue.cell 3 _ rfl;have due4:=D_ue.cell 4 _ rfl;have dk0:=(HD.at ai HAid.out hso).1 2 _ rfl;have dk1:=(HD.at di HDid.out hso).1 3 _ rfl;go_cut [95] (fun v wq=>v = .bool (cd != 0)∧Wk F (.slice (some ⟨gx,0,none⟩) n cx) wq g B b [] cd∧Wf g F F w0 wq)
    case first =>
     cases okv with
     | false =>
      have HB1:=lH (show decide (1125899906842624<am+fe)=true by have:=HOK.out;simpa using this);(have HCD:Hid (cd=10):=by unfold Hid;rw [HC2.out];rw [HB1.out];cases decide (A.loc<am+fe)<;>cases decide (D.rem<am)<;>rfl);refine wp_region_noPanic ?_;have B4n:=trivial;exact Oc
     | true =>
      have HB1:=lH (show decide (1125899906842624<am+fe)=false by have:=HOK.out;simpa using this);obtain rfl:sv=am+fe:=HSV.out rfl;by_cases h12:A.loc<am+fe
      ·have e12:decide (A.loc<am+fe)=true:=decide_eq_true h12;clear h12;(have HCD:Hid (cd=12):=by unfold Hid;rw [HC2.out];rw [HB1.out,e12];cases decide (D.rem<am)<;>rfl);refine wp_region_noPanic ?_;have B4o:=trivial;exact Oc
      have e12:decide (A.loc<am+fe)=false:=decide_eq_false h12;clear h12;by_cases h11:D.rem<am;rotate_left
      ·have e11:decide (D.rem<am)=false:=decide_eq_false h11;clear h11;(have HCD:Hid (cd=0):=by unfold Hid;rw [HC2.out];rw [HB1.out,e12,e11];rfl);refine wp_region_noPanic ?_;have B4p:=trivial;exact Oc
      have e11:decide (D.rem<am)=true:=decide_eq_true h11;clear h11;(have HCD:Hid (cd=11):=by unfold Hid;rw [HC2.out];rw [HB1.out,e12,e11];rfl);refine wp_region_noPanic ?_;exact Oc
    case rest =>
     have B4q:=trivial;exact Sn
   |have dk0:=(by simpa using (HD.at ai HAid.out hso).1 0 _ rfl);have dk1:=(HD.at ai HAid.out hso).1 1 _ rfl;have dk2:=(HD.at ai HAid.out hso).1 2 _ rfl;have dk3:=(HD.at ai HAid.out hso).1 3 _ rfl;have dk4:=(HD.at ai HAid.out hso).1 4 _ rfl;have dk5:=(HD.at ai HAid.out hso).1 5 _ rfl;have dk6:=(HD.at ai HAid.out hso).1 6 _ rfl;go_cut [4] (fun v wq=>∃ u,v = .pointer (some ⟨u,0,none⟩)∧w0.heap.size≤u∧Bx wq u [A.id,A.size,A.loc,A.rem,A.base,A.ppm,A.score]∧Below w0 w0 wq)
    case first =>
     as_aux_lemma =>
      refine wp_region_noPanic ?_;exact A6K
    first
    |clear B3y
     case rest =>
      have B4k:=trivial;exact fV
    |case rest =>
      exact fV):p:=h
theorem Y8(h:p:=by
 rw [← HYd.out,← HQ0.out] at hd;have B4r:=trivial;exact pB):p:=h
theorem B4s(h:p:=by
 subst hpq;have hno:Hid (Cp b.chans p p=false):=by unfold Hid Cp;rw [decide_eq_true rfl];rfl
 have e0:(p != p)=false:=AP;exact BH):p:=h
theorem pC(h:p:=by
 have e9:(cz != cl+cr+oo+ii)=true:=Li;have hno:Hid (Ak b=false):=LK (QJ hx.out (Qr dH));clear hsum;exact BH):p:=h
theorem Y6(h:p:=by
 rw [← HYd.out,← HQ1.out] at hd;exact pB):p:=h
theorem pD(h:p:=by
 go_upto_region 5 with fail
 exact pE):p:=h
theorem pF(h:p:=by
 obtain ⟨nt,hnt⟩:∃ n,n=(h.sent ++ h.wait).length:=⟨_,rfl⟩;rw [← hnt] at hv;subst hv;have HNT:=lH hnt;clear hnt;refine sO hK fun hHeld => ?_
 first
 |clear B4t
  clear hK K;refine tK 6 ?_;have B4u:=trivial;exact FY
 |clear hK K;refine tK 7 ?_;have B4v:=trivial;exact FY):p:=h
theorem pG(h:p:=by
 go_wp2_with fail
 refine (D5 F _ g B b [] _ 10 _ _ H5).mono ?_;rintro e w8 ⟨rfl,H6,W6⟩;go_wp2;go_meet
 case rel=>exact ⟨H6,W6⟩):p:=h
theorem ey(h:p:=by
 subst h0;obtain ⟨x0,x1,x2,x3,x4,x5⟩:=P12.c6;obtain ⟨q0,q1,q2,q3,q4,q5⟩:=Q8.c6;obtain ⟨y0,y1,y2,y3,y4,y5⟩:=Q8.z6;have hql:=Q8.lt;have h12l:=P12.lt
 first
 |clear A6T
  obtain ⟨wS,hwS⟩:∃ u,u=w8.setCells ob 0 [b2.tick,b2.next,b2.wallet, .slice a7 n7 k7, .slice a8 n8 k8, .slice a9 n9 k9]:=⟨_,rfl⟩;have FX:Ex [ob] w8 wS:=SK;exact ki
 |obtain ⟨wS,hwS⟩:∃ u,u=wX.setCells ob 0 [b2.tick,b2.next,b2.wallet, .slice a7 n7 k7, .slice a8 n8 k8, .slice a9 n9 k9]:=⟨_,rfl⟩;have FX:Ex [ob] wX wS:=SK;have B0F:=trivial;exact ki):p:=h
theorem iY(h:p:=by
 refine ET kR kR ?_;repeat (go_big_quiet_step (fail))
 have B4w:=trivial;exact El):p:=h
theorem Zc(h:p:=by
 have W0:=V0;obtain ⟨a,len,cap,rfl,-,-,hxl,hmx,-⟩:=VN.at_ V0;have hl:len≤9223372036854775807:=Rq;have Hl:=lH hxl;clear V0 hxl;by_cases h:m - (len:Int)<0
 first
 |clear A20
  ·(go_enter Tryz.func116,Tryz.ntmps116);exact Gw
  go_enter Tryz.func116,Tryz.ntmps116
  go_wp2;go_loopw [1,5] (fun q i wr=>∃ (k:Nat) (z:Int),k≤len∧i=k∧q=z∧(0≤z∧z≤m)∧Hid (∀ x∈xs.take k,(x).length≤1048576)∧Below w w wr) (fun _ i _=>len - (intOf i).toNat)
  case atStart=>exact ⟨0,_,Nat.zero_le _,rfl,rfl,AA,by intro x hx;simp at hx,Below.refl _ _⟩
  case round =>
   have B4d:=trivial;exact kr
 |·(go_enter Tryz.func117,Tryz.ntmps117);exact Gw
  go_enter Tryz.func117,Tryz.ntmps117
  go_wp2;go_loopw [1,5] (fun q i wr=>∃ (k:Nat) (z:Int),k≤len∧i=k∧q=z∧(0≤z∧z≤m)∧Hid (∀ x∈xs.take k,(x.bytes).length≤1048576)∧Below w w wr) (fun _ i _=>len - (intOf i).toNat)
  case atStart=>exact ⟨0,_,Nat.zero_le _,rfl,rfl,AA,by intro x hx;simp at hx,Below.refl _ _⟩
  case round =>
   exact kr):p:=h
theorem bj(h:p:=by
 refine ⟨fun h hm=>(hb.pk.hs h hm).age,fun c hm => ?_⟩;have:=(hb.ck c hm).score
 unfold DR AE;split
 ·split
  ·omega
  split
  ·omega
  omega
 omega):p:=h
theorem pH(h:p:=by
 have B4x:=trivial;exact pI):p:=h
theorem pJ(h:p:=by
 clear hid2;clear hm2 hi2 h5 hi haa V3;go_wp2;go_roundw
 case rel=>exact ⟨k2+1,AA,Ab,HL2,WL⟩
 case measure=>simp only [intOf];omega):p:=h
theorem pK(h:p:=by
 go_wp2_with fail
 refine (CV).mono ?_;rintro e w6 ⟨rfl,b6⟩;have P6:=P5.keep b6;have hB6:=AD b6 hB5;have hBw6:=AD b6 hBw5
 first
 |clear B4y
  clear hBw5 hB5 CV b6 p0 p1 p2 p3 p4 p5 x0 x1 x2 x3 x4 x5 x6;obtain ⟨x0,x1,x2,x3,x4,x5,x6⟩:=P6.c7;cases hT0:Cp b.chans x.inn x.out
  ·have hno:Hid (Bv b=false):=by
    unfold Hid;exact GF hx.out (Fv (by rw [hT0];simp))
   exact L9
  have HhT0:=lH hT0;clear hT0;go_wp2_with fail
  refine (BP x.ain _).mono ?_;rintro e w1 ⟨rfl,rfl⟩;cases hT1:AH x.ain
  ·have hno:Hid (Bv b=false):=by
    unfold Hid;exact GF hx.out (Fv (by have:=Gf hT1;omega))
   exact Tx
  have HhT1:=lH hT1;clear hT1;go_wp2_with fail
  refine (BP x.aout _).mono ?_;rintro e w1 ⟨rfl,rfl⟩;cases hT2:AH x.aout
  ·have hno:Hid (Bv b=false):=by
    unfold Hid;exact GF hx.out (Fv (by have:=Gf hT2;omega))
   exact Ty
  have HhT2:=lH hT2;clear hT2;by_cases hp3:x.aout<1
  ·have hno:Hid (Bv b=false):=by
    unfold Hid;exact GF hx.out (Fv oM)
   have e3:decide (x.aout<1)=true:=decide_eq_true hp3;exact BH
  have e3:decide (x.aout<1)=false:=decide_eq_false hp3;have Hhp3:=lH hp3;by_cases hp4:x.ain<x.aout
  ·have hno:Hid (Bv b=false):=by
    unfold Hid;exact GF hx.out (Fv oM)
   have e4:decide (x.ain<x.aout)=true:=decide_eq_true hp4;exact BH
  have e4:decide (x.ain<x.aout)=false:=decide_eq_false hp4;have Hhp4:=lH hp4;go_wp2_with fail
  refine (BP x.age _).mono ?_;rintro e w1 ⟨rfl,rfl⟩;cases hT5:AH x.age
  ·have hno:Hid (Bv b=false):=by
    unfold Hid;exact GF hx.out (Fv (by have:=Gf hT5;omega))
   clear hT5;exact BH
  have HhT5:=lH hT5;clear hT5;have k0:=IG HhT1.out;have k1:=IG HhT5.out;have k2:=HhT0.out;have B4z:=trivial;exact pL
 |clear hBw5 hB5 CV b6 p0 p1 p2 p3 p4 p5 x0 x1 x2 x3 x4;obtain ⟨x0,x1,x2,x3,x4⟩:=P6.c5;cases hT0:Cp b.chans x.frm x.tw
  ·have hno:Hid (Bv b=false):=by
    unfold Hid;exact IC hx.out (Hv (by rw [hT0];simp))
   exact L9
  have HhT0:=lH hT0;clear hT0;go_wp2_with fail
  refine (BP x.amt _).mono ?_;rintro e w1 ⟨rfl,rfl⟩;cases hT1:AH x.amt
  ·have hno:Hid (Bv b=false):=by
    unfold Hid;exact IC hx.out (Hv (by have:=Gf hT1;omega))
   exact Tx
  have HhT1:=lH hT1;clear hT1;by_cases hp2:x.amt<1
  ·have hno:Hid (Bv b=false):=by
    unfold Hid;exact IC hx.out (Hv oM)
   have e2:decide (x.amt<1)=true:=decide_eq_true hp2;exact BH
  have e2:decide (x.amt<1)=false:=decide_eq_false hp2;have Hhp2:=lH hp2;go_wp2_with fail
  refine (BP x.fee _).mono ?_;rintro e w1 ⟨rfl,rfl⟩;cases hT3:AH x.fee
  ·have hno:Hid (Bv b=false):=by
    unfold Hid;exact IC hx.out (Hv (by have:=Gf hT3;omega))
   exact Tz
  have HhT3:=lH hT3;clear hT3;have k0:=IG HhT1.out;have k1:=IG HhT3.out;have k2:=HhT0.out;have B40:=trivial;exact pM):p:=h
theorem pN(h:p:=by
 have B41:=trivial;exact T0):p:=h
theorem nj(h:p:=by
 go_wp2_with fail
 refine C3.mono ?_;rintro e w3 ⟨rfl,b3⟩;have P3:=P1.keep b3;have B3:=AD b3 B2;obtain ⟨r0,r1,r2⟩:=P3.c3
 first
 |clear B42
  obtain ⟨z0,z1,z2⟩:=P3.z3;clear P1 P2 P3 V2 p0 p1 p2 C3 Vb b3 hok;exact T4
 |first
  |clear B43
   have z0:=P3.fz 0 dC;have z1:=P3.fz 1 dC;have z2:=P3.fz 2 dC;clear P1 P2 P3 V2 O2 p0 p1 p2 C3 Vb b3 hok;go_wp2;exact pO
  |obtain ⟨z0,z1,z2⟩:=P3.z3;clear P1 P2 P3 V2 O2 p0 p1 p2 C3 Vb b3 hok;exact T4):p:=h
theorem ZT(h:p:=by
 have q1:=(h.ck _ (Ei hc1).1);have q2:=(h.ck _ (Ei hc2).1);have a1:=q1.rem.1;have a2:=q2.loc.1;have a3:=q1.loc.1;have a4:=q2.rem.1
 first
 |clear A2t
  have b1:=q.o1;have b2:=q.o2;have hne:=hap.1;have hnd:(b.htlcs.map (·.key)).Nodup:=(List.nodup_append.1 h.pk.nd).1
  have s1:∀ x,((b.htlcs.filter fun h => !decide (h.key=e.key)).map (BS x)).sum+BS x (Ac b e.key)=(b.htlcs.map (BS x)).sum:=fun x=>by
   (have:=Ki (·.key) (BS x) b.htlcs _ m1 hnd);exact Ot
  have s2:∀ x,((b.htlcs.filter fun h => !decide (h.key=e.key)).map (Bb x)).sum+Bb x (Ac b e.key)=(b.htlcs.map (Bb x)).sum:=fun x=>by
   (have:=Ki (·.key) (Bb x) b.htlcs _ m1 hnd);exact Ot
  unfold Al;generalize Ac b e.key=H at *;rw [if_neg oM,if_neg oM,if_neg oM,if_neg oM,if_neg oM];by_cases h6:e.kind=6
  ·rw [if_pos h6];refine LM h rfl rfl rfl (My _ _ _ _ _ _ _ _) (YO h.pk e.key _ (GZ _ _ _ _ _ _ _) rfl rfl (My _ _ _ _ _ _ _ _)) hap (fun x => -(BS x H)) (fun x => -(Bb x H)) (fun x => ?_) (fun x => ?_) (fun x => ?_) oM oM oM oM Yj ?_ (fun x => ?_) (fun x => ?_) (fun x => ?_)
   ·exact TL
   ·exact TM
   ·exact oT
   all_goals simp only [Gg]
   ·exact Cx
   ·simp [A9,eq_comm]
   ·simp [A9,BS];split<;>simp_all
   exact Cx
  rw [if_neg h6,if_pos oM];refine LM h rfl rfl rfl (My _ _ _ _ _ _ _ _) (YO h.pk e.key _ (GZ _ _ _ _ _ _ _) rfl rfl (My _ _ _ _ _ _ _ _)) hap (fun x => -(BS x H)) (fun x => -(Bb x H)) (fun x => ?_) (fun x => ?_) (fun x => ?_) oM oM oM oM Xc ?_ (fun x => ?_) (fun x => ?_) (fun x => ?_)
  ·exact TL
  ·exact TM
  ·exact oT
  all_goals simp only [Gg]
  ·exact Cx
  ·simp [A9,eq_comm]
  ·simp [A9,BS];split<;>simp_all
  exact Cx
 |have b1:=q.a1;have b2:=q.fee.1;have hne:=hap.1;have hnd:(b.circles.map (·.key)).Nodup:=(List.nodup_append.1 h.pk.nd).2.1
  have s1:∀ x,((b.circles.filter fun h => !decide (h.key=e.key)).map (CY x)).sum+CY x (AW b e.key)=(b.circles.map (CY x)).sum:=fun x=>by
   (have:=Ki (·.key) (CY x) b.circles _ m1 hnd);exact Ot
  have s2:∀ x,((b.circles.filter fun h => !decide (h.key=e.key)).map (Bu x)).sum+Bu x (AW b e.key)=(b.circles.map (Bu x)).sum:=fun x=>by
   (have:=Ki (·.key) (Bu x) b.circles _ m1 hnd);exact Ot
  unfold Al;generalize AW b e.key=H at *;rw [if_neg oM,if_neg oM,if_neg oM,if_neg oM,if_neg oM,if_neg oM,if_neg oM,if_neg oM,if_neg oM];by_cases h6:e.kind=10
  ·rw [if_pos h6];exact lI
  rw [if_neg h6];exact lI):p:=h
theorem jf(h:p:=by
 have B44:=trivial;exact TB):p:=h
theorem pP(h:p:=by
 rw [h14] at H5;have B46:=trivial;exact MA):p:=h
theorem pQ(h:p:=by
 clear hq k1 k2 k3 hn h3 h4 h5 hc hl;go_upto_region 9 with fail
 go_quiet (fail)
 exact GM):p:=h
theorem mJ(h:p:=by
 have hend:Hid (DQ ps=(L,cn)):=A5k;obtain ⟨r0,r1⟩:=R5.c2;obtain ⟨y0,y1⟩:=R5.z2;have hr5:=R5.lt;clear hpf;go_wp2
 first
 |clear B1i
  refine bodyPost_ret (by simp only [results,Tryz.results225];go_simp;rfl) rfl ?_;exact pR
 |refine bodyPost_ret (by simp only [results,Tryz.results219];go_simp;rfl) rfl ?_;exact pR):p:=h
theorem pS(h:p:=by
 have B47:=trivial;exact Lv):p:=h
theorem mc(h:p:=by
 have hp:Dz p=true:=hp;have HP:=lH hp;clear hp;obtain ⟨l0,l1⟩:=LX.c2;obtain ⟨p0,p1⟩:=PX.c2;by_cases hle:p.id≤l.last
 first
 |clear B15
  ·have B48:=trivial;exact pT
  have B49:=trivial;exact pU
 |·exact pT
  exact pU):p:=h
theorem mN(h:p:=by
 have hl:=ho1.lt;replace ho1:=ho1.le hs;have hnd:=ho1.nd;have B5A:=trivial;exact KT):p:=h
theorem lr(h:p:=by
 have hl:Bq l=true:=hl;have HL:=lH hl;clear hl;obtain ⟨l0,l1⟩:=LX.c2;obtain ⟨p0,p1⟩:=PX.c2;go_wp2_with fail
 first
 |clear B06
  refine (A1R p.id _ p.lines _ VPx).mono ?_;rintro e w5 ⟨rfl,b5⟩;have B13:=trivial;exact ma
 |refine (zP p.id _ p.lines _ VPx).mono ?_;rintro e w5 ⟨rfl,b5⟩;exact ma):p:=h
theorem pV(h:p:=by
 have e0:(x.kind == y.kind)=false:=A8;clear hxy;have B5B:=trivial;exact MB):p:=h
theorem pW(h:p:=by
 rw [ho] at hgo;have HO:=lH ho;clear ho;go_wp2;go_ret;exact ⟨Ag (by rw [HH.out,HO.out];rfl),B2⟩):p:=h
theorem B5C(h:p:=by
 have K:=hb.pk.hs h hm;have k1:=K.ain;have k2:=K.o1;have k3:=K.o2;unfold Am at k1;omega):p:=h
theorem mj(h:p:=by
 refine tP 11 ?_;exact ml):p:=h
theorem Yq(h:p:=by
 intro j u hj;have:=hy j u hj
 unfold Addr.add;split
 ·rename_i h0;subst h0;exact this
 simpa using this):p:=h
theorem lJ(h:p:=by
 refine tK 0 ?_;refine tK 1 ?_;refine tK 2 ?_;refine tH 3 fun K hK => ?_;go_simp;go_at_call 149
 first
 |clear B0d
  first
  |clear B3z
   refine (Du g 2 _ D7 DF dC).mono ?_;rintro e w2 ⟨rfl,hw2⟩;have FC:=HD.setCode 2;have PS:=PD.set1 7 (.int .i64 2) AF;have QS0:=D_ue.otherC g 7 (.int .i64 2) hneq;exact OO
  |refine (Dr g 2 _ D7).mono ?_;exact GN
 |first
  |clear B4n
   refine (Du g 10 _ D7 DF dC).mono ?_;rintro e w2 ⟨rfl,hw2⟩;have FC:=HD.setCode 10;have PS:=PD.set1 7 (.int .i64 10) AF;have QS0:=D_ue.otherC g 7 (.int .i64 10) hneq;exact Th
  |refine (Dr g 10 _ D7).mono ?_;have B5D:=trivial;exact GN):p:=h
theorem jh(h:p:=by
 rw [hup] at u0;have hno:Hid (G8 W=0):=SU;clear hw hup;go_wp2;go_ret;exact ⟨SL,BX⟩):p:=h
theorem Qy(h:p:=by
 clear hin;go_enter Tryz.func316,Tryz.ntmps316
 go_wp2_with (((first | (go_at_call 231;refine (Az _ _).mono ?_) | (go_at_call 124;refine (Cy _ _ _ _).mono ?_) | (go_at_call 318;refine (Kg _ _ _ _ oM oM oM).mono ?_));(first | (rintro e w1 ⟨rfl,rfl⟩) | (rintro e w1 ⟨rfl,hb⟩;(try (replace H0:=A7 H0 hb bS;clear hc0 hf0 hs0 hz0;obtain ⟨hc0,hf0,hs0,hz0⟩:=AS H0));(try (replace H1:=A7 H1 hb bS;clear hc1 hf1 hs1 hz1;obtain ⟨hc1,hf1,hs1,hz1⟩:=AS H1));(try (replace H2:=A7 H2 hb bS;clear hc2 hf2 hs2 hz2;obtain ⟨hc2,hf2,hs2,hz2⟩:=AS H2));(try replace S0:=S0.keep (AD hb bS));(try replace S1:=S1.keep (AD hb bS));(try replace S2:=S2.keep (AD hb bS));(try replace S3:=S3.keep (AD hb bS));(first | ((fail_if_success (have ht:=H0));have H0:=hb;obtain ⟨hc0,hf0,hs0,hz0⟩:=AS H0) | ((fail_if_success (have ht:=H1));have H1:=hb;obtain ⟨hc1,hf1,hs1,hz1⟩:=AS H1) | ((fail_if_success (have ht:=H2));have H2:=hb;obtain ⟨hc2,hf2,hs2,hz2⟩:=AS H2) | skip)))))
 go_ret3;exact ⟨rfl,Below.refl _ _⟩):p:=h
theorem ZF(h:p:=by
 have Hf:Hid (Be b p n true=false):=Ib;exact Qz):p:=h
theorem ZE(h:p:=by
 have Hf:Hid (Be b p n true=true):=Ib;exact ZH):p:=h
theorem Ou(h:p:=by
 intro v8 w8 o8 g8 f8;rw [← HL.out] at o8;have B5E:=trivial;exact Oe):p:=h
theorem JV(h:p:=by
 go_upto_region 12 with fail
 exact pX):p:=h
theorem JW(h:p:=by
 have B5F:=trivial;exact MB):p:=h
theorem Im(h:p:=by
 have B5G:=trivial;exact MC):p:=h
theorem KY(h:p:=by
 clear hgo hx ht h1 hs;go_wp2;go_roundw
 case rel=>exact ⟨k+1,_,_,_,_,AA,Ab,rfl,rfl,rfl,rfl,hn2,bW⟩
 case measure=>simp only [intOf];omega):p:=h
theorem Lp(h:p:=by
 go_upto_region 18 with fail
 exact pX):p:=h
theorem Qv(h:p:=by
 intro j v hv;have hj:j<7:=(List.getElem?_eq_some_iff.1 hv).1;rw [hown.cellAt (k*7+j) oM,List.getElem?_append_right oM,hl,show k*7+j - k*7=j by omega];rw [show (y0 :: y1 :: y2 :: y3 :: y4 :: y5 :: y6 :: r') = [y0,y1,y2,y3,y4,y5,y6] ++ r' from rfl,List.getElem?_append_left Qw];exact hv):p:=h
theorem KZ(h:p:=by
 have B5H:=trivial;exact MB):p:=h
theorem KS(h:p:=by
 have H0:=H.keep b0;have P0:=P.keep b0;have V0:=V.keep b0;have W0:Wf g F F w w0:=Wf.of_below b0;clear b0 P V H hue
 first
 |clear A7u
  have hks:=zT V0;have CK:=fun w V=>WA (.slice ax n cx) (.slice ay m cy) (.slice az q cz) b w V hb.pk.h60 hb.pk.c20;have CI:=fun v w V=>Wy v (A1 b) ky w V;rw [uT,← hq9] at CI;have HKS:=lH hks;have HQ9:=lH hq9;clear hks hq9;have CT:=Pu (.slice ax n cx) (.slice ay m cy) (.slice az q cz) b ch tt;rw [yX hct] at CT;obtain ⟨tw,htw⟩:∃ t,t=(AI b.chans ch && AI b.chans tt):=⟨_,rfl⟩;rw [← htw] at CT;have HTW:=lH htw;clear htw;have hneq:¬ ue=g:=fun e=>nE EN
  first
  |clear B5I
   obtain ⟨c1,hc1⟩:∃ c,c=AG (decide (20≤b.circles.length)) 14 (AG (!tw) 6 (AG q9 9 0)):=⟨_,rfl⟩;have HC1:=lH hc1;clear hc1;have B3s:=trivial;exact lB
  |obtain ⟨c1,hc1⟩:∃ c,c=AG (decide (60≤b.htlcs.length)) 14 (AG (!tw) 6 (AG q9 9 0)):=⟨_,rfl⟩;have HC1:=lH hc1;have HCQ:=lH hpart;rw [← HQ9.out,← HTW.out,← HC1.out] at HCQ;clear hc1 hpart;exact lB
 |clear A8v
  have CK:=vY (.slice ax n cx) (.slice ay m cy) (.slice az q cz) b ky;simp only [← hq9] at CK;have HQ9:=lH hq9;clear hq9;obtain ⟨p0,p1,p2,p3,p4,p5⟩:=P0.c6;have c1:=PE.cell 1 _ rfl;go_cut [] (fun wq=>Wk F (.slice ax n cx) wq g B b [] (AG q9 9 0)∧Wf g F F w0 wq)
  case first =>
   go_region_with (first
    | (go_at_call 262;refine (CK _ (V0.keep (bW))).mono ?_;rintro e w1 ⟨rfl,b1⟩;have b01:Below w0 w0 w1:=(bW);have H1:=H0.keep b01)
    | (go_at_call 260;refine (D5 F _ g B b [] 0 9 q9 w1 H1).mono ?_;rintro e w2 ⟨rfl,H2,W2⟩))
   all_goals
    go_wp2_with fail
    go_meet
    case rel=>exact ⟨H2,(Wf.of_below b01).trans W2⟩
  first
  |clear B5J
   case rest =>
    have B5K:=trivial;exact fN
  |case rest =>
    exact fN
 |clear B0r
  have CA:=YA (.slice ax n cx) (.slice ay m cy) (.slice az q cz) b ky;simp only [h1] at CA;obtain ⟨p0,p1,p2,p3,p4,p5⟩:=P0.c6;have c1:=PE.cell 1 _ rfl
  first
  |clear A9x
   go_cut [4] (fun v wq=>v=((i:Int))∧Below w0 w0 wq)
   case first =>
    exact pY
   first
   |clear B5L
    case rest =>
     have B4Z:=trivial;exact fD
   |case rest =>
     exact fD
  |go_cut [4] (fun v wq=>v = .int .i64 (-1)∧Below w0 w0 wq)
   case first =>
    exact pY
   case rest =>
    exact OJ
 |clear B0t
  have CA:=YH (.slice ax n cx) (.slice ay m cy) (.slice az q cz) b ky;simp only [h1] at CA;obtain ⟨p0,p1,p2,p3,p4,p5⟩:=P0.c6;have c1:=PE.cell 1 _ rfl
  first
  |clear A9y
   go_cut [4] (fun v wq=>v=((i:Int))∧Below w0 w0 wq)
   case first =>
    exact pZ
   first
   |clear B5M
    case rest =>
     have B4X:=trivial;exact fC
   |case rest =>
     exact fC
  |go_cut [4] (fun v wq=>v = .int .i64 (-1)∧Below w0 w0 wq)
   case first =>
    exact pZ
   case rest =>
    exact OJ
 |clear B1m
  first
  |clear B5N
   have c2:=PE.cell 2 _ rfl;(go_wp2_with fail);refine (QC F _ g B b [] 0 ch _ H0).mono ?_;rintro e w3 ⟨p1,o1,rfl,T1,H3,W3,Y1⟩;rw [← HA.out] at T1 Y1;obtain ⟨PE,nE⟩:=W3.box PE nE;have WX:=W0.trans W3;clear c2 W3 H0 P0 V0 W0;obtain ⟨k1,hk1⟩:∃ k:Int,k=AG (!AI b.chans ch) 6 0:=⟨_,rfl⟩;rw [← hk1] at H3;have HK1:=lH hk1;clear hk1;have u:=T1.cell H3;have u0:=u 0 _ rfl;have u1:=u 1 _ rfl;have u2:=u 2 _ rfl;have u3:=u 3 _ rfl;have u4:=u 4 _ rfl;have u5:=u 5 _ rfl;have u6:=u 6 _ rfl;simp only [Nat.add_zero] at u0;(go_upto_region 2 with fail);refine cW fun w4 Q b4 => ?_;obtain ⟨uc,huc⟩:∃ u,u=w3.heap.size:=⟨_,rfl⟩;rw [← huc] at Q ⊢;have nQ:=H3.fresh;rw [← huc] at nQ;have PE:=PE.keep b4;have H4:=H3.keep b4;have WX:=WX.trans (Wf.of_below b4);clear u u0 u1 u2 u3 u4 u5 u6 T1 H3 b4 huc;obtain ⟨y4,z4,l4,P4,V4,-⟩:=H4.cells;obtain ⟨ay4,m4,cy4,rfl,-,-⟩:=VS.form V4.htlcs;obtain ⟨az4,q4,cz4,rfl,-,-⟩:=VS.form V4.circles;have CU:=A1V (.slice ax n cx) (.slice ay4 m4 cy4) (.slice az4 q4 cz4) b ch;simp only [← hq7] at CU;have HQ7:=lH hq7;clear hq7;obtain ⟨p0,p1,p2,p3,p4,p5⟩:=P4.c6;have c2:=PE.cell 2 _ rfl;go_cut [] (fun wq=>Wk F (.slice ax n cx) wq g B b [] (AG q7 7 k1)∧Wf g F F w4 wq)
   case first =>
    go_region_with (first
     | (go_at_call 261;refine (CU _ (V4.keep (bW))).mono ?_;rintro e w5 ⟨rfl,b5⟩;have b45:Below w4 w4 w5:=(bW);have H5:=H4.keep b45)
     | (go_at_call 260;refine (D5 F _ g B b [] k1 7 q7 w5 H5).mono ?_;rintro e w6 ⟨rfl,H6,W6⟩))
    all_goals
     go_wp2_with fail
     go_meet
     case rel=>exact ⟨H6,(Wf.of_below b45).trans W6⟩
   case rest =>
    obtain ⟨H5,W2⟩:=hcut;obtain ⟨w5,hw5⟩:∃ x,x=wc:=⟨_,rfl⟩;subst hw5;have WX:=WX.trans W2;obtain ⟨PE,nE⟩:=W2.box PE nE;obtain ⟨Q,nQ⟩:=W2.box Q nQ;clear p0 p1 p2 p3 p4 p5 c2 P4 CU H4 V4 W2;obtain ⟨k2,hk2⟩:∃ k:Int,k=AG q7 7 k1:=⟨_,rfl⟩;rw [← hk2] at H5;have HK2:=lH hk2;clear hk2;have c5:=PE.cell 5 _ rfl;have x2:=Q.cell 2 _ rfl;(go_wp2_with fail);refine (D5 F _ g B b [] _ 8 _ _ H5).mono ?_;rintro e w7 ⟨rfl,H6,W6⟩;have WX:=WX.trans W6;obtain ⟨PE,nE⟩:=W6.box PE nE;obtain ⟨Q,nQ⟩:=W6.box Q nQ;clear c5 x2 H5 W6;have H5:=H6;clear H6;rw [show AG (decide (A.loc<fe)) 8 k2=cd by rw [HCODE.out,HK2.out,HK1.out]] at H5;exact oL
  |have B5O:=trivial;exact TW
 |first
  |clear B5P
   have CA:=Jy (.slice ax n cx) (.slice ay m cy) (.slice az q cz) b ch;have hneq:¬ ue=g:=fun e=>nE EN;obtain ⟨p0,p1,p2,p3,p4,p5⟩:=P0.c6;have c2:=PE.cell 2 _ rfl;go_cut [] (fun wq=>Wk F (.slice ax n cx) wq g B b [] (AG q3 3 0)∧Wf g F F w0 wq)
   case first =>
    cases hh:AI b.chans ch with
    | true =>
     obtain ⟨i,_,hi,-⟩:=EH hh;rw [hi] at CA;rw [hh] at hq3;have HQ3:Hid (q3=true):=hq3;clear hh hq3 hi;have B5Q:=trivial;exact fR
    | false =>
     rw [IW hh] at CA;rw [hh,Bool.false_or] at hq3;by_cases h20:20≤n;rotate_left
     ·(have HQ3:Hid (q3=false):=by unfold Hid;rw [hq3,decide_eq_false Cb]);have e20:decide ((20:Int)≤(n:Int))=false:=decide_eq_false oM;have B5R:=trivial;exact fQ
     (have HQ3:Hid (q3=true):=by unfold Hid;rw [hq3,decide_eq_true Cb]);have e20:decide ((20:Int)≤(n:Int))=true:=decide_eq_true oM;exact fQ
   case rest =>
    obtain ⟨H5,W2⟩:=hcut;obtain ⟨w6,hw6⟩:∃ x,x=wc:=⟨_,rfl⟩;subst hw6;have WX:=W0.trans W2;obtain ⟨PE,nE⟩:=W2.box PE nE;clear p0 p1 p2 p3 p4 p5 c2 P0 CA H0 V0 W0 W2;obtain ⟨k1,hk1⟩:∃ k:Int,k=AG q3 3 0:=⟨_,rfl⟩;rw [← hk1] at H5;have HK1:=lH hk1;clear hk1;have c4:=PE.cell 4 _ rfl;obtain ⟨y4,z4,l4,P4,-,-⟩:=H5.cells;have tf:=P4.cell 2 _ rfl;(go_upto_region 2 with fail);obtain ⟨wf,hwf⟩:∃ x,x=w6:=⟨_,rfl⟩;rw [← hwf] at H5 WX PE c4 tf P4 ⊢;clear hwf;go_cut [] (fun wq=>Wk F (.slice ax n cx) wq g B b [] (AG (decide (b.wallet<am)) 4 k1)∧Wf g F F wf wq)
    case first =>
     go_region_with (go_at_call 260;refine (D5 F _ g B b [] _ 4 _ _ (H5.keep (bW))).mono ?_;rintro e w6 ⟨rfl,H6,W6⟩)
     all_goals
      go_wp2_with fail
      go_meet
      case rel=>exact ⟨H6,(Wf.of_below (bW)).trans W6⟩
    case rest =>
     clear H5;obtain ⟨H5,W6⟩:=hcut;have B5S:=trivial;exact Ij
  |have c4:=PE.cell 4 _ rfl;have c5:=PE.cell 5 _ rfl;exact ms):p:=h
theorem Ov(h:p:=by
 have f2':=BN hbg f2;go_wp2;go_roundw
 case rel=>exact ⟨k+1,AA,Ab,Fu (by rw [Hs.out]),Hn,AD hbg BW⟩
 case measure=>simp [intOf];omega):p:=h
theorem Oi(h:p:=by
 clear hx ht h0 h1;go_wp2;go_roundw
 case rel=>exact ⟨k+1,AA,Ab,Fu cX,Fu ce,bW⟩
 case measure=>simp only [intOf];omega):p:=h
theorem pd(h:p:=by
 cases hT3:decide ((rn:Int)=h.log.next)
 ·exact B4M
 have H3:Hid (((BQ h.log.disk).length:Int)=h.log.next):=A55;have t3:((rn:Int) != h.log.next)=false:=by have:=of_decide_eq_true hT3;simpa using this
 clear hT3
 first
 |clear B5T
  cases ro with
  | false =>
   exact pe
  | true =>
   (go_wp2_with fail);refine (A0M _ _ _ _ _ _ rb h.book _ RV VX.book).mono ?_;exact i9
 |go_wp2_with fail
  refine (Xv _ _ h.log.disk _ VX.log.disk).mono ?_;have B5U:=trivial;exact lU):p:=h
theorem iJ(h:p:=by
 go_wp2_with fail
 exact So):p:=h
theorem nG(h:p:=by
 repeat (go_big_quiet_step (first | (go_at_call 238;first | exact Calls.grew_of_same (CH _)) | (go_at_call 231;first | exact Calls.grew_of_same (AL _) | exact Calls.grew_of_same (AR _) | exact Calls.grew_of_same (AB _) | exact Calls.grew_of_same (AZ _)) | (go_at_call 124;first | exact Calls.grew_of_same (PP _)) | (go_at_call 239;first | exact Calls.grew_of_same (SC _))))
 have B5V:=trivial;exact El):p:=h
theorem fZ(h:p:=by
 by_cases hxy:x=y
 ·exact B0y
 have hno:Hid (xs≠ys):=fun e=>by
  have h1:=hx.out;rw [e,hy.out] at h1;exact T5
 clear hx hy htx hty;by_cases h0:x.kind=y.kind;rotate_left
 first
 |clear A6r
  ·have B5W:=trivial;exact pV
  have e0:(x.kind == y.kind)=true:=A8;by_cases h1:x.key=y.key;rotate_left
  ·have e1:(x.key == y.key)=false:=BG;clear hxy h0;exact KZ
  have e1:(x.key == y.key)=true:=BG;by_cases h2:x.ch=y.ch;rotate_left
  ·have e2:(x.ch == y.ch)=false:=Cs;clear hxy h0 h1;exact KZ
  have e2:(x.ch == y.ch)=true:=Cs;by_cases h3:x.tw=y.tw;rotate_left
  ·have e3:(x.tw == y.tw)=false:=Fo;clear hxy h0 h1 h2;exact KZ
  have e3:(x.tw == y.tw)=true:=Fo;by_cases h4:x.amt=y.amt;rotate_left
  ·have e4:(x.amt == y.amt)=false:=Fp;clear hxy h0 h1 h2 h3;exact KZ
  have e4:(x.amt == y.amt)=true:=Fp;by_cases h5:x.fee=y.fee;rotate_left
  ·have e5:(x.fee == y.fee)=false:=Gp;clear hxy h0 h1 h2 h3 h4;exact KZ
  have e5:(x.fee == y.fee)=true:=Gp;by_cases h6:x.yes=y.yes
  ·have e6:(x.yes == y.yes)=true:=Gq;exact KQ
  have e6:(x.yes == y.yes)=false:=Gq;clear hxy h0 h1 h2 h3 h4 h5;exact KZ
 |·exact pV
  have e0:(x.kind == y.kind)=true:=A8;by_cases h1:x.ch=y.ch;rotate_left
  ·have e1:(x.ch == y.ch)=false:=BG;clear hxy h0;exact MB
  have e1:(x.ch == y.ch)=true:=BG;by_cases h2:x.amt=y.amt
  ·have e2:(x.amt == y.amt)=true:=Cs;exact KQ
  have e2:(x.amt == y.amt)=false:=Cs;clear hxy h0 h1;exact MB):p:=h
theorem ZJ(h:p:=by
 have Hf:Hid (Be b p n true=false):=Ib;exact RC):p:=h
theorem ZI(h:p:=by
 have Hf:Hid (Be b p n true=true):=Ib;exact RD):p:=h
theorem Ow(h:p:=by
 clear hx ht h0;go_wp2;go_roundw
 case rel=>exact ⟨k+1,AA,Ab,Fu cX,bW⟩
 case measure=>simp only [intOf];omega):p:=h
theorem Ox(h:p:=by
 clear hx ht h1;go_wp2;go_roundw
 case rel=>exact ⟨k+1,AA,Ab,Fu ce,bW⟩
 case measure=>simp only [intOf];omega):p:=h
theorem Oy(h:p:=by
 have P6:=P5.keep hbg;have PX6:=PX5.keep hbg;have hB6:=AD hbg hB5;have hBw6:=AD hbg hBw5;have V6:=V0.keep hB6
 first
 |clear B5X
  clear AL AR AB PP SC AZ CH x0 x1 x2 x3 x4 x5 x6 p3 d0 hw hB5 hBw5 hbg PX5 P5;exact gV
 |clear B5Y
  clear AL AR AB SC x0 x1 x2 x3 x4 x5 x6 p3 d0 hw hB5 hBw5 hbg PX5 P5;exact gL
 |clear B5Z
  clear AL AR AB PP SC AZ CH x0 x1 x2 x3 x4 x5 x6 p3 hB5 hBw5 hbg PX5 P5;have B5a:=trivial;exact gV
 |clear AL AR AB SC x0 x1 x2 x3 x4 x5 x6 p3 hB5 hBw5 hbg PX5 P5;have B5b:=trivial;exact gL):p:=h
theorem nH(h:p:=by
 repeat (go_big_quiet_step (first | (go_at_call 233;first | with_reducible exact Calls.grew_of_same (AL _) | with_reducible exact Calls.grew_of_same (AR _) | with_reducible exact Calls.grew_of_same (AB _)) | (go_at_call 235;first | with_reducible exact Calls.grew_of_same (SC _))))
 have B5c:=trivial;exact El):p:=h
theorem ko(h:p:=by
 refine Dc D4 Tryz.underlying50 rfl dC dC (fun _=>rfl) ER rfl _ _ rfl wz (.slice none 0 0) [] rfl (AC.nil _ _) _ L1 rfl (VT _ (bW)) sM N4 SH ?_;intro v8 w8 o8 b8 g8;rw [List.nil_append] at o8;have B5d:=trivial;exact Oe):p:=h
theorem pg(h:p:=by
 have r12:=of_decide_eq_false r12;have r11:=of_decide_eq_false r11;have r10':okv=true:=by cases okv with | true=>rfl | false=>(simp at r10)
 obtain ⟨rfl,rfl,hadd⟩:okv=true∧sv=am+fv∧CE am fv=true:=by
  rcases HSV.out with h | ⟨h3,-,-⟩
  ·exact h
  rw [h3] at r10';cases r10'
 have haddb:=NO hadd
 first
 |clear B5e
  clear hcA hcB hcC hcD HC3 HSV r10 r10' r13 hadd;subst h0;have e8:((0:Int) != 0)=false:=rfl;go_upto_region 8 with fail
  obtain ⟨ar,nr,cr,pr,hnr,hncr,OR,VR,HR⟩:=H5.ht;obtain ⟨yp,zp,lp,PP,-,-⟩:=H5.cells;have B5f:=trivial;exact j7
 |clear r14 r10 r10' hadd HK1 HK2 HK3 HK4 HK5 HK6 HK7 HCODE HSV;exact jj):p:=h
theorem Tv(h:p:=by
 have B5g:=trivial;exact ph):p:=h
theorem MD(h:p:=by
 have B5h:=trivial;exact GV):p:=h
theorem Y7(h:p:=by
 obtain ⟨p,hp⟩:∃ p:Nat,p=q*d0:=⟨_,rfl⟩
 have hp2:p<18446744073709551616:=by
  rw [hp];have:=Nat.mul_le_mul (show q≤4294967295 by omega) (show d0≤4294967295 by omega)
  omega
 have E11:IntKind.u64.wrap ((q:Int)*d0)=(p:Int):=by rw [← Ix hp2,hp,Int.natCast_mul]
 have Hp:=lH hp;clear hp
 first
 |clear A2r
  by_cases hgt:4294967296*r+n1<p;rotate_left
  ·have Hq:Hid (q=Q1):=by
    unfold Hid;rw [HQ1.out,HYd.out];exact Knuth.done NU h1.out (by rw [← HYd.out,← HQ1.out];exact h2.out) (by rw [← Hp.out];omega)
   clear h1 h2;have B5i:=trivial;exact Ka
  have hd:=Knuth.down (n1:=n1) b3 NU h1.out (.inr (by rw [← Hp.out];exact hgt));exact Y6
 |by_cases hgt:4294967296*r+n0<p;rotate_left
  ·have Hq:Hid (q=Q0):=by
    unfold Hid;rw [HQ0.out,HYd.out];exact Knuth.done NV h1.out (by rw [← HYd.out,← HQ0.out];exact h2.out) (by rw [← Hp.out];omega)
   clear h1 h2;have B5j:=trivial;exact ME
  have hd:=Knuth.down (n1:=n0) b4 NV h1.out (.inr (by rw [← Hp.out];exact hgt));exact Y8):p:=h
theorem pj(h:p:=by
 go_wp2_with (at_make;refine wpList_make_full _ rfl _ _ _ rfl w 5 i0 (.int .u8 0) 1 Tryz.underlying161 hi hz0 hz1 .i64 .i64 _ _ 128 rfl rfl rfl rfl ?b2 ?b3 ?b4 ?_)
 case b2=>rw [hz2];omega
 case b3=>unfold maxLen;omega
 case b4=>first | exact Nat.le_refl _ | (simp;done) | (simp;omega)
 intro w1 hown hgr
 first
 |clear B5k
  have hB1:Below w w w1:=(Ae (Below.refl _ w) _).trans ((Below.refl _ _).grown hgr sM sM);exact pm
 |have hB1:Below w w w1:=(Below.refl _ _).grown hgr (Nat.le_refl _) sM;exact pm):p:=h
theorem T6(h:p:=by
 obtain ⟨hTx,exx,hZ⟩:=hTx;exact Oz):p:=h
theorem pn(h:p:=by
 obtain ⟨p0,p1,p2,p3,p4,p5⟩:=P0.c6;by_cases hpq:p=q
 ·exact B4s
 have e0:(p != q)=true:=by simp [hpq]
 go_wp2_with fail
 first
 |clear B5l
  refine (Jy _ _ _ b p w0 V0).mono ?_;have B0R:=trivial;exact kv
 |refine (Hi _ _ _ b p w0 V0).mono ?_;exact kv):p:=h
theorem po(h:p:=by
 have hN:=A1A (part xs i size) j oM;have hnx:Hid (num ((part xs i size).take (j+1))=num ((part xs i size).take j)*256+x.toNat):=A1f xs i size j x hx2.out hlt;obtain ⟨N,hNN⟩:∃ N,N=num ((part xs i size).take j):=⟨_,rfl⟩;rw [← hNN] at hN hnx ⊢;have hxb:=x.toNat_lt
 first
 |clear B5m
  have hor:=A1d N x.toNat oM oM;clear hc hx2 hNN;exact RJ
 |clear hx2 hNN;exact RJ):p:=h
theorem TO(h:p:=by
 have B5n:=trivial;exact Ly):p:=h
theorem pp(h:p:=by
 have:=J2 (A:=G0 ++ G1) (G1:=G2) (C := []) (V:=v'.ownBlock.toList) (n:=w.heap.size) (by simpa using hn) (GA v') hfr (fun k hk => ?_) (fun k hk=>by cases hk)
 ·exact Fm
 exact pt):p:=h
theorem Tc(h:p:=by
 have B5o:=trivial;exact KX):p:=h
theorem Lx(h:p:=by
 have B5p:=trivial;exact Ja):p:=h
theorem pu(h:p:=by
 refine ⟨rfl,_,_,_,_,H5,WX,?_⟩;try intro _
 have hdo:Al b ⟨2,ky,ch,tt,am,fe,ys⟩=({b with chans:=A6 b.chans ⟨ch,am+fe,am,fe,0,0,0⟩,wallet:=b.wallet - am},BL [⟨1,0,-am⟩,⟨6,ch,am⟩]):=rfl;rw [hdo,HL.out];exact EI):p:=h
theorem T7(h:p:=by
 have B5q:=trivial;exact GV):p:=h
theorem pv(h:p:=by
 rw [List.append_assoc];refine J2 (G1:=G1) (n:=w.heap.size) (by rw [← List.append_assoc];exact hd) (GA v') hfr (fun k hk=>(a0.lt k hk).2) (fun k hk => ?_);exact px):p:=h
theorem aF(h:p:=by
 have hok:Hid (Ah kd ky ch tt am fe ys=true):=hg;obtain ⟨⟨k1,k2⟩,⟨a1,a2⟩,⟨b1,b2⟩,⟨c1,c2⟩,⟨d1,d2⟩,f1,f2⟩:=Xm hg;simp only [] at k1 k2 a1 a2 b1 b2 c1 c2 d1 d2 f1 f2;have hbody:=lH (wC kd ky ch tt am fe ys);clear hg
 first
 |clear A3q
  go_enter Tryz.func180,Tryz.ntmps180
  have B5r:=trivial;exact py
 |go_enter Tryz.func159,Tryz.ntmps159
  exact py):p:=h
theorem Zw(h:p:=by
 have hb : -100≤n∧n≤100:=of_decide_eq_true hs;have hr:Hid (DR n=(if 0<n then n - 1 else if n<0 then n+1 else 0)):=by unfold Hid DR;rw [if_pos hs]
 simp only [hs] at CS;clear hs;rcases (show 0<n∨n<0∨n=0 by omega) with h0 | h0 | rfl
 first
 |clear A3V
  all_goals
   go_enter Tryz.func269,Tryz.ntmps269
   go_wp2_with ((go_at_call 239;refine (CS _).mono ?_;rintro e w1 ⟨rfl,rfl⟩))
   all_goals
    go_ret
    exact ⟨CD KF,rfl⟩
 |all_goals
   go_enter Tryz.func251,Tryz.ntmps251
   go_wp2_with ((go_at_call 235;refine (CS _).mono ?_;rintro e w1 ⟨rfl,rfl⟩))
   all_goals
    go_ret
    exact ⟨CD KF,rfl⟩):p:=h
theorem pz(h:p:=by
 have HOKS:=lH hoks;have HL:=lH hL;clear hoks hL OKS OR hnr;have O0:AC Cn.enc 7 182 (w2.alloc (.cells #[] 182)) w2 (.slice (some ⟨w2,0,none⟩) 0 0) []:=AC.made (enc:=Cn.enc) (sz:=7) (E:=182) w2 w2 (Nat.le_refl _);have b0:=bA w2 [] 182
 first
 |clear B5s
  have hz0:=bZ w2 [] 182;go_upto_region 4 with fail
  generalize w2.alloc (.cells #[] 182)=w3 at O0 b0 hz0 ⊢;have PE3:=PE.keep b0;have c2:=PE3.cell 2 _ rfl;have c4:=PE3.cell 4 _ rfl;have c5:=PE3.cell 5 _ rfl;have Q1:=bN w3 [ch, .int .i64 (am+fe),am,fe,I0,I0,I0] 182;have b1:=bA w3 [ch, .int .i64 (am+fe),am,fe,I0,I0,I0] 182;obtain ⟨uo,huo⟩:∃ u,u=w2.heap.size+1:=⟨_,rfl⟩;rw [hz0,← huo] at Q1;go_upto_region 6 with fail
  rw [← huo];generalize w3.alloc (.cells #[ch, .int .i64 (am+fe),am,fe,I0,I0,I0] 182)=w4 at Q1 b1 ⊢;have B1:=AD b1 b0;have O1:AC Cn.enc 7 182 w4 w2 _ []:=AC.keep O0 b1;have P4:=PV.keep B1;have hgl:=PV.lt;have hn20:n≤20:=Cb;have huw:w2.heap.size+1=uo:=AA;clear O0 b0 b1 hz0 huo c2 c4 c5 PE3;have p3:=P4.cell 3 _ rfl;go_wp2;go_loopw [6,7,10,71] (fun ks dn _ i wr=>∃ (k:Nat) (v:Value) (KK:List Cn) (d:Bool),k≤n∧i=k∧ks=v∧dn=d∧AC Cn.enc 7 182 wr w2 v KK∧Hid (uo∉v.ownBlock.toList)∧Hid (EQ (⟨ch,am+fe,am,fe,0,0,0⟩:Cn) d (b.chans.take k) KK)∧KK.length≤k+1∧Bx wr uo [ch, .int .i64 (am+fe),am,fe,I0,I0,I0]∧Below w2 w2 wr) (fun _ _ _ i _=>n - (intOf i).toNat)
  case atStart=>exact ⟨0,_,[],false,Nat.zero_le _,rfl,rfl,rfl,O1,SN,zU _,AP,Q1,B1⟩
  case round =>
   obtain ⟨k,v,KK,d,hk,rfl,rfl,rfl,ho,hun,hKK,hKl,hQ,hB⟩:=hrel;clear O1 Q1 P4 p3 B1;have hul:=hQ.lt;have B5t:=trivial;exact JT
 |go_upto_region 6 with fail
  generalize w2.alloc (.cells #[] 182)=w4 at O0 b0 ⊢;have B1:=b0;have P4:=PV.keep B1;have hn20:n≤20:=Cb;clear b0;have p3:=P4.cell 3 _ rfl;go_wp2;go_loopw [6,8,53] (fun ks _ i wr=>∃ (k:Nat) (v:Value) (KK:List Cn),k≤n∧i=k∧ks=v∧AC Cn.enc 7 182 wr w2 v KK∧Hid (KK=(b.chans.take k).filter (fun c => !decide (c.id=ch)))∧KK.length≤k∧Below w2 w2 wr) (fun _ _ i _=>n - (intOf i).toNat)
  case atStart=>exact ⟨0,_,[],Nat.zero_le _,rfl,rfl,O0,rfl,Nat.le_refl _,B1⟩
  case round =>
   obtain ⟨k,v,KK,hk,rfl,rfl,ho,hKK,hKl,hB⟩:=hrel;clear O0 P4 p3 B1;have B5u:=trivial;exact JT):p:=h
theorem qA(h:p:=by
 have hcmp:(S1.toList == S2.toList)=false:=R6
 have hres:Hid (DP xs=none):=by
  by_cases h22:xs.length=22
  ·exact A0h dW
  exact Pi h22
 have HE:=lH HE;clear P1 Q1 P3 Q3 V1 V3 O3 hSB hSl hS1 hS2 heq F b3;go_wp2
 first
 |clear B5v
  exact TC
 |exact jv):p:=h
theorem Tp(h:p:=by
 have h1:=hx.out;have h2:=hy.out;dsimp only at h1 h2;rw [e,h2] at h1;exact T5):p:=h
theorem TS(h:p:=by
 clear hx ht hxy;exact T8):p:=h
theorem Tg(h:p:=by
 refine tK 34 ?_;have B5w:=trivial;exact KX):p:=h
theorem qB(h:p:=by
 unfold A1 at hj;rcases List.mem_append.1 hj with hj | hj
 ·obtain ⟨h,hh,rfl⟩:=List.mem_map.1 hj;exact (VS.oks V.htlcs h hh).1
 obtain ⟨h,hh,rfl⟩:=List.mem_map.1 hj;exact (VS.oks V.circles h hh).1):p:=h
theorem OG(h:p:=by
 dsimp only at hcode;obtain ⟨A,hA⟩:∃ A,A=AM b.chans ch:=⟨_,rfl⟩;obtain ⟨D,hD⟩:∃ D,D=AM b.chans tt:=⟨_,rfl⟩;obtain ⟨q9,hq9⟩:∃ q,q=(Aw b ky || Ay b ky):=⟨_,rfl⟩;rw [← hA,← hD,← hq9] at hcode
 first
 |clear A9B
  have HCODE:=lH hcode;have HA:=lH hA;have HD:=lH hD;clear hcode ho hA hD;exact TG
 |have HC:=lH hcode;have HA:=lH hA;have HDd:=lH hD;clear hcode ho hA hD
  first
  |clear B5x
   exact mL
  |clear B5y
   have B3u:=trivial;exact ej
  |have HCP:=lH hpart2;clear hpart2;exact ej):p:=h
theorem Tj(h:p:=by
 simp only [Option.some.injEq,Addr.mk.injEq,and_true] at e';subst e';clear hg' hown hown2 hb2;go_wp2;go_roundw
 first
 |clear B5z
  case rel=>exact ⟨k+1,AA,Ab,HV.put ho hr Hxl.out hlt ht.out rfl,bW⟩
  case measure=>simp [intOf];omega
 |clear B50
  case rel=>exact ⟨k+1,AA,Ab,IJ.put ho hr Hxl.out hlt ht.out rfl,bW⟩
  case measure=>simp [intOf];omega
 |first
  |clear B51
   case rel=>exact ⟨k+1,AA,Ab,IU.put ho hr Hxl.out hlt ht.out rfl,bW⟩
   case measure=>simp [intOf];omega
  |clear B52
   case rel=>exact ⟨k+1,AA,Ab,Gz.put ho hr Hxl.out hlt ht.out rfl,bW⟩
   case measure=>simp [intOf];omega
  |case rel=>exact ⟨k+1,AA,Ab,IH.put ho hr Hxl.out hlt ht.out rfl,bW⟩
   case measure=>simp [intOf];omega):p:=h
theorem og(h:p:=by
 rintro e w1 ⟨rfl,rfl⟩;cases hT1:AH b.wallet
 ·have hno:Hid (Ak b=false):=by
   unfold Hid Ak;rw [hT1];simp
  exact Tx
 have HhT1:=lH hT1;clear hT1
 first
 |clear B4P
  go_wp2_with fail
  refine (Cy b.next 1 1125899906842624 _).mono ?_;rintro e w1 ⟨rfl,rfl⟩;cases hT2:Ad b.next 1 1125899906842624
  ·have hno:Hid (Ak b=false):=by
    unfold Hid Ak;rw [hT2];simp
   exact Ty
  have HhT2:=lH hT2;clear hT2;have B53:=trivial;exact qC
 |by_cases hp2:b.next<1
  ·have B54:=trivial;exact qD
  have e2:decide (b.next<1)=false:=decide_eq_false hp2;have Hhp2:=lH hp2;by_cases hp3:1125899906842624<b.next
  ·exact qD
  have e3:decide (1125899906842624<b.next)=false:=decide_eq_false hp3;have Hhp3:=lH hp3;exact qC):p:=h
theorem Tn(h:p:=by
 have B55:=trivial;exact Ls):p:=h
theorem mh(h:p:=by
 refine tK 36 ?_;have B56:=trivial;exact KX):p:=h
theorem lA(h:p:=by
 replace hnd:=JK hnd ho2.nd (n:=X1.heap.size) (fun k hk=>by
  exact (ho1.lt k hk).2) (fun k hk=>(hl k hk).1)
 replace ho1:=ho1.keep hb;exact KT):p:=h
theorem qE(h:p:=by
 have hxx:=hx.out;rw [H2.out] at hxx;obtain rfl:=Option.some.inj hxx;clear hx hxx V1
 obtain ⟨rfl⟩:off=0:=by
  rcases OR.2 with ⟨h,_⟩ | ⟨g',cap',cur,h,_⟩
  ·simp at h
  simp at h;exact h.1.2
 first
 |clear B57
  simp only [Nat.zero_add] at r0 r1 r2 r3 r4 r5 r6;have A9H:=trivial;exact jx
 |simp only [Nat.zero_add] at r0 r1 r2 r3 r4;exact jx):p:=h
theorem TQ(h:p:=by
 case' rest =>
  obtain ⟨wb2,hwn⟩:∃ x,x=wc:=⟨_,rfl⟩
  subst hwn
  rw [← hcut] at FK PE' WX'
  clear hcut
 have B58:=trivial;exact PC):p:=h
theorem T9(h:p:=by
 obtain ⟨a',n',c',e',-,-,Fs⟩:=V;rw [hv] at e'
 injection e' with _ e2 _
 rw [e2];exact Fs.1):p:=h
theorem aX(h:p:=by
 intro v8 w8 o8 b8 g8;obtain ⟨E2,hE2⟩:∃ l,l=EE ++ [(⟨yk,yc,ya⟩:Ln)]:=⟨_,rfl⟩;exact Od):p:=h
theorem aR(h:p:=by
 obtain ⟨⟨hs1,hs2⟩,⟨hs3,hs4⟩,hs5⟩:=XW hs;obtain ⟨sq,ep,bd⟩:=s;simp only [] at hs1 hs2 hs3 hs4 hs5;obtain ⟨a4,c4,rfl,-⟩:=AK.form O4;dsimp only at O4 ⊢
 first
 |clear B59
  go_upto_region 10 with fail
  refine cW fun w5 P5 b5 => ?_;have HO:=ho4.keep b5;have O5:AK w5 w3 (.slice a4 bd.length c4) bd:=O4.keep b5;have B5:=AD b5 hB4;have hBw5:=AD B5 B0;have z5:=b5.size;obtain ⟨q0,q1,q2⟩:=P5.c3;have ql:=P5.lt;clear O4 ho4 b5 hB4;by_cases h1:sq=(k:Int);rotate_left
  ·have e1:(sq != (k:Int))=true:=BG;have B6A:=trivial;exact qF
  by_cases h2:lst≤ep;rotate_left
  ·have e1:(sq != (k:Int))=false:=BG;have e2:decide (ep<lst)=true:=decide_eq_true oM;have B6B:=trivial;exact qG
  have e1:(sq != (k:Int))=false:=BG;have e2:decide (ep<lst)=false:=decide_eq_false oM
  have hnx:Hid (BQ d=(pre ++ [⟨sq,ep,bd⟩]) ++ DM d (k+1) ep (n - (k+1))):=by
   unfold Hid;rw [hgo.out,show n - k=(n - (k+1))+1 by omega,Qo hs h1 h2];simp
  have H1:=lH h1;have hb5:(⟨sq,ep,bd⟩:Sc).body.length=bd.length:=rfl;clear hs h1 hgo hb5;go_wp2_with (at_builtin;refine MT Qi Tryz.underlying156 rfl dC dC Qc rfl _ _ rfl w0 _ pre us rfl (HO.keep (Ae (Below.refl _ _) _)) _ ⟨sq,ep,bd⟩ (.slice a4 bd.length c4) rfl rfl (BC _ _ _ rfl) (by have:=HPL.out;omega) (Nat.le_trans B5.size (Aj _ _)) dC (AC.alloc (AC.le O5 oM) _) ⟨KD,KD⟩ (fun _ _=>trivial) (fun b hb hm=>by have:=(AC.blk O5 b hb).1;have:=(hl3 b hm).2;omega) ?_)
  intro v6 w6 O6 b6 g6;have B6:Below w0 w0 w6:=B5.trans (((Ae (Below.refl _ w5) _).mono B5.size).trans b6);obtain ⟨R,hR⟩:∃ l,l=pre ++ [(⟨sq,ep,bd⟩:Sc)]:=⟨_,rfl⟩;have hRl:R.length=k+1:=by rw [hR,List.length_append,HPL.out];rfl
  rw [← hR] at O6 hnx;obtain ⟨a6,c6,rfl,-,-⟩:=O6.form;have q1':=(P5.alloc (.cells #[sq,ep, .slice a4 bd.length c4] 163)).keepL b6;have HRL:=lH hRl;clear hR hRl q0 q1 q2 g6 b6 e1 e2 O5 HO q1';go_wp2;go_roundw
  case rel=>exact ⟨k+1,R,_,ep,Ab,AA,rfl,O6,HRL.out,⟨AA,AA⟩,hnx,B6⟩
  case measure=>simp only [intOf];omega
 |exact qH):p:=h
theorem Zv(h:p:=by
 have hb : -100≤n∧n≤100:=of_decide_eq_true hs;have hr:Hid (Ch n=max (n - 15) (-100)):=by unfold Hid Ch;rw [if_pos hs]
 simp only [hs] at CS;clear hs;by_cases h0 : -100≤n - 15
 first
 |clear A3U
  all_goals
   go_enter Tryz.func268,Tryz.ntmps268
   go_wp2_with ((go_at_call 239;refine (CS _).mono ?_;rintro e w1 ⟨rfl,rfl⟩))
   all_goals
    go_ret
    exact ⟨CD KF,rfl⟩
 |all_goals
   go_enter Tryz.func250,Tryz.ntmps250
   go_wp2_with (first | (go_at_call 235;refine (CS _).mono ?_;rintro e w1 ⟨rfl,rfl⟩) | (go_at_call 284;refine (QE _ _ _ _).mono ?_;rintro e w1 ⟨rfl,rfl⟩))
   all_goals
    go_ret
    exact ⟨CD KF,rfl⟩):p:=h
theorem qI(h:p:=by
 obtain ⟨z,hz⟩:∃ z:Nat,z=114 - n:=⟨_,rfl⟩;have hz0:0<z:=AA;have hm1:(122:Int) - (8+(n:Int))=(z:Int):=AA;have hm2:(122:Int) - ((8+n:Nat):Int)=(z:Int):=AA;have HZ:=lH hz
 first
 |clear B6C
  clear hM P4 r2 O4' O4x g5 b5 B4 Vb O5l hz;go_wp2_with (at_builtin;refine Yl rfl _ _ rfl w3 _ M rfl O5 (by have:=HO5l.out;omega) z rfl hz0 (by have:=HO5l.out;have:=HZ.out;omega) z35 ?_)
  intro v6 w6 O6 b6 g6;have P6:=P5.keepL b6 hP3;have B6:=B5.trans (b6.mono z03);have t0:=P6.cell 0 _ rfl;obtain ⟨R,hR⟩:∃ R,R=M ++ List.replicate z (0:UInt8):=⟨_,rfl⟩;rw [← hR] at O6;have hRl:R.length≤1000:=by rw [hR,List.length_append,List.length_replicate];have:=HO5l.out;have:=HZ.out;omega
  obtain ⟨a6,c6,rfl,-⟩:=AK.form O6;have O6v:=O6.vs;have HR:=lH hR;clear hR P5 s0 g6 b6 B5 O5 hm1 hm2 O6;go_wp2_with fail
  refine (Hc _ R sq 3 _ O6v oM oM oM oM).mono ?_;rintro e w7 ⟨⟨v7,rfl,O7⟩,b7⟩;have P7:=P6.keep b7;have B7:=AD b7 B6;have t1:=P7.cell 1 _ rfl;obtain ⟨R2,hR2⟩:∃ R2,R2=R ++ be sq 3:=⟨_,rfl⟩;rw [← hR2] at O7;have hR2l:R2.length≤1003:=by rw [hR2,List.length_append,D1];omega
  have HR2:=lH hR2;obtain ⟨a7,c7,rfl,-⟩:=AK.form O7;have O7v:=O7.vs;clear P6 B6 t0 b7 O7 O6v hR2;go_wp2_with fail
  refine (Hc _ R2 ep 3 _ O7v oM oM oM oM).mono ?_;rintro e w8 ⟨⟨v8,rfl,O8⟩,b8⟩;have B8:=AD b8 B7;have O9:=AC.le (B':=w.heap.size) O8 B7.size
  have hfin:Hid (R2 ++ be ep 3=Dv ⟨sq,ep,body⟩):=by
   unfold Hid;rw [HR2.out,HR.out,HMM.out,HH.out];exact qJ
  rw [hfin.out] at O9;obtain ⟨SB,hSB⟩:∃ l,l=Dv ⟨sq,ep,body⟩:=⟨_,rfl⟩;rw [← hSB] at O9;have HSB:=lH hSB;clear hSB;obtain ⟨a9,c9,rfl,-⟩:=AK.form O9;clear P7 t1 O7v O8 b8 B7;go_wp2_with fail
  refine bodyPost_ret (by simp only [results,Tryz.results160];go_simp;rfl) rfl ?_;exact ⟨⟨_,rfl,by rw [← HSB.out];exact O9⟩,B8⟩
 |clear hG4l hz;go_wp2_with (at_builtin;refine Yl rfl _ _ rfl w1 _ G4 rfl O5 (by have:=HG4l.out;omega) z rfl hz0 (by have:=HG4l.out;have:=HZ.out;omega) z15 ?_)
  intro v6 w6 O6 b6 g6;have P6:=P5.keepL b6 hP1;have B6:=B5.trans (b6.mono B1.size);have z16:w1.heap.size≤w6.heap.size:=Nat.le_trans z15 b6.size;obtain ⟨R,hR⟩:∃ R,R=G4 ++ List.replicate z (0:UInt8):=⟨_,rfl⟩;rw [← hR] at O6;have hRl:R.length≤1000:=by rw [hR,List.length_append,List.length_replicate];have:=HG4l.out;have:=HZ.out;omega
  have HR:=lH hR;obtain ⟨R2,hR2⟩:∃ R2,R2=R ++ be sq 3:=⟨_,rfl⟩;have hR2l:R2.length≤1003:=by rw [hR2,List.length_append,D1];omega
  have HR2:=lH hR2;obtain ⟨R3,hR3⟩:∃ R3,R3=R2 ++ be ep 3:=⟨_,rfl⟩;have HR3:=lH hR3;obtain ⟨a6,c6,rfl,-⟩:=AK.form O6;obtain ⟨u0,u1⟩:=P6.c2;clear hR hR2 hR3 P5 B5 O5 g6 b6 hm1 hm2 z15;go_upto_region 6 with fail
  go_region_held3 (fun w'=>w'.cell? ⟨w,0,none⟩=.some sq∧w'.cell? ⟨w,1,none⟩=.some ep) (go_keep) (first
   | (go_at_call 271;(fail_if_success (have ht:=O7));refine (I5 w1 _ R sq 3 w6.drew O6 z16 oM oM oM).mono ?_;rintro e w7 ⟨⟨v7,rfl,O7⟩,b7⟩;rw [← HR2.out] at O7;obtain ⟨a7,c7,rfl,-⟩:=AK.form O7;have P7:=P6.drew.keepL b7 hP1;have q0:=P7.cell 0 _ rfl;have q1:=P7.cell 1 _ rfl)
   | (go_at_call 271;refine (I5 w1 _ R2 ep 3 _ O7 (Nat.le_trans z16 b7.size) oM oM oM).mono ?_;rintro e w8 ⟨⟨v8,rfl,O8⟩,b8⟩;rw [← HR3.out] at O8;obtain ⟨a8,c8,rfl,-⟩:=AK.form O8;have P8:=P7.keepL b8 hP1;have q0:=P8.cell 0 _ rfl;have q1:=P8.cell 1 _ rfl))
  have B8:Below w w w8:=B6.trans (((Below.drew (Below.refl _ w6)).trans b7 |>.mono B1.size).trans (b8.mono B1.size));have O9:=AC.le (B':=w.heap.size) O8 B1.size
  have hfin:Hid (R3=Dv ⟨sq,ep,body⟩):=by
   unfold Hid;rw [HR3.out,HR2.out,HR.out,HG4.out,HG3.out,HG2.out,HG.out,HLB.out];exact qJ
  clear P6 P7 P8 u0 u1 q0 q1 O7 O8 b7 b8 B6 O6;go_wp2;refine bodyPost_ret (by simp only [results,Tryz.results181];go_simp;rfl) rfl ?_;exact ⟨⟨_,rfl,by rw [← hfin.out];exact O9⟩,B8⟩):p:=h
theorem jG(h:p:=by
 intro v8 w8 o8 b8 g8;obtain ⟨K2,hE2⟩:∃ l,l=KK ++ [x.key]:=⟨_,rfl⟩;have hE2l:K2.length=KK.length+1:=Nk;rw [← hE2] at o8;obtain ⟨a8,c8,rfl⟩:=Ds.form o8
 first
 |clear A8Y
  have hB8:=hB6.trans (((Ae (Below.refl _ _) _).mono hB6.size).trans b8);have HE2:=lH hE2;clear hE2 g8 b8;rw [← HE2.out] at hKK2;go_wp2;go_roundw
  case rel=>exact ⟨k+1,_,K2,AA,Ab,rfl,o8,hKK2,hall2,AA,hB8⟩
  case measure=>simp only [intOf];omega
 |have hB8:=hB5.trans (((Ae (Below.refl _ _) _).mono hB5.size).trans b8);have HE2:=lH hE2;clear hE2 g8 b8;rw [← HE2.out] at hKK2;go_wp2;go_roundw
  case rel=>exact ⟨k+1,_,K2,AA,Ab,rfl,o8,hKK2,AA,hB8⟩
  case measure=>simp only [intOf];omega):p:=h
theorem mK(h:p:=by
 rintro e wc1 ⟨rfl,bc1⟩;have Bc1:Below w0 w0 wc1:=Below.trans BD (Below.mono bc1 BD.size);have Hc1:=H5.keep Bc1;have Pc1:=P0.keep Bc1;have Ec10:=PE.keep Bc1
 first
 |clear B6D
  have Ec11:=UA.keep Bc1;have Ec12:=UD.keep Bc1;have B6E:=trivial;exact PF
 |first
  |clear B6F
   have B6G:=trivial;exact PF
  |obtain ⟨c1s0,c1s1,c1s2,c1s3,c1s4,c1s5⟩:=Pc1.c6
   first
   |clear B2G
    exact mB
   |exact mA):p:=h
theorem qK(h:p:=by
 have B6H:=trivial;exact qL):p:=h
theorem Zu(h:p:=by
 have hb : -100≤n∧n≤100:=of_decide_eq_true hs;have hr:Hid (Co n=min (n+10) 100):=by unfold Hid Co;rw [if_pos hs]
 simp only [hs] at CS;clear hs;by_cases h0:n+10≤100
 first
 |clear A3T
  all_goals
   go_enter Tryz.func267,Tryz.ntmps267
   go_wp2_with ((go_at_call 239;refine (CS _).mono ?_;rintro e w1 ⟨rfl,rfl⟩))
   all_goals
    go_ret
    exact ⟨CD KF,rfl⟩
 |all_goals
   go_enter Tryz.func249,Tryz.ntmps249
   go_wp2_with (first | (go_at_call 235;refine (CS _).mono ?_;rintro e w1 ⟨rfl,rfl⟩) | (go_at_call 284;refine (QE _ _ _ _).mono ?_;rintro e w1 ⟨rfl,rfl⟩))
   all_goals
    go_ret
    exact ⟨CD KF,rfl⟩):p:=h
theorem qM(h:p:=by
 have P6:=P5.keep b6;have PX6:=PX5.keep b6;have ho6:Ds w6 w0 (.slice ao KK.length co) KK:=AC.keep ho5 b6;have hB6:=AD b6 hB5;have hBw6:=AD b6 hBw5
 first
 |clear B6I
  clear CV x0 x1 x2 x3 x4 x5 x6;have k0:=IG HhT0.out;have k1:=IG HhT3.out;have k2:=HhT4.out;exact pL
 |clear CV x0 x1 x2 x3 x4;have k0:=IG HhT0.out;have k1:=IG HhT2.out;have k2:=HhT3.out;exact pM):p:=h
theorem Gt(h:p:=by
 refine tK 0 ?_;refine tK 1 ?_;refine tK 2 ?_;refine tK 3 ?_;refine tK 4 ?_
 first
 |clear A6j
  refine tK 6 ?_;refine tK 7 ?_;refine tH 5 fun K hK => ?_;go_simp;go_at_call 244
  refine (CK _ (V0.keep BD)).mono ?_;rintro e wc1 ⟨⟨vk,rfl,hvk⟩,bc1⟩;have B6J:=trivial;exact UB
 |clear A8B
  refine tH 5 fun K hK => ?_;have B6K:=trivial;exact FV
 |refine tK 5 ?_
  first
  |clear A7g
   refine tH 6 fun K hK => ?_;have B6L:=trivial;exact FV
  |refine tK 6 ?_
   first
   |clear B0m
    refine tH 7 fun K hK => ?_;go_simp
    first
    |clear B6M
     have B6N:=trivial;exact Om
    |clear A60
     (go_at_call 242);refine (CU _ (V0.keep BD)).mono ?_;rintro e wc1 ⟨rfl,bc1⟩;have B6O:=trivial;exact UB
    |(go_at_call 142);refine (CA _ (V0.keep (bW))).mono ?_;rintro e w1 ⟨rfl,b1⟩;have b01:Below w0 w0 w1:=(bW);have H1:=H0.keep b01;have P1:=P0.keep b01;have PE1:=PE.keep b01;obtain ⟨s0,s1,s2,s3,s4,s5⟩:=P1.c6;have p7:w1.cell? ⟨g,7,none⟩=.some I0:=P1.cell 7 _ rfl;have f7:=P1.fz 7 AF;have s6:=PE1.cell 2 _ rfl;have B6P:=trivial;exact Dm
   |refine tK 7 ?_
    first
    |clear A7K
     refine tH 8 fun K hK => ?_;have B6Q:=trivial;exact FV
    |refine tK 8 ?_;refine tK 9 ?_
     first
     |clear A7d
      have B6R:=trivial;exact MF
     |refine tH 10 fun K hK => ?_;go_simp
      first
      |clear B4h
       (go_at_call 247);refine (CR _ (V0.keep BD)).mono ?_;have B6D:=trivial;exact mK
      |have B6S:=trivial;exact Om):p:=h
theorem qN(h:p:=by
 have hno:Hid (¬ h=Hb.zero):=fun e=>by have:=hr.2 EJ;cases this
 clear hr;exact D3):p:=h
theorem iD(h:p:=by
 replace BX:=AD bx BX;clear bx;have B6T:=trivial;exact OW):p:=h
theorem B6U(h:p:=by
 have:=P.lt
 simp at hm;rcases hfr k hk with h | h
 ·exact hgn (hm ▸ h)
 omega):p:=h
theorem qO(h:p:=by
 have Pc2:=P0.keep Bc2;have Ec20:=PE.keep Bc2;have Zc2:=Pc2.cell 7 _ rfl;have Fc2:=Pc2.fz 7 AF;obtain ⟨c2s0,c2s1,c2s2,c2s3,c2s4,c2s5⟩:=Pc2.c6
 first
 |clear B6V
  have c2ue2:=Ec20.cell 2 _ rfl;have c2ue3:=Ec20.cell 3 _ rfl;have c2ue4:=Ec20.cell 4 _ rfl
  first
  |clear B4p
   have B6W:=trivial;exact kH
  |exact kH
 |have c2ue1:=Ec20.cell 1 _ rfl;have c2ue2:=Ec20.cell 2 _ rfl;have c2ue3:=Ec20.cell 3 _ rfl;have B6X:=trivial;exact Dm):p:=h
theorem qP(h:p:=by
 have B6Y:=trivial;exact UC):p:=h
theorem Yr(h:p:=by
 rw [if_pos h];have hb:=NO h;have h1:AH a=true:=decide_eq_true oM;have h2:AH b=true:=decide_eq_true oM;have h3:AH (a+b)=true:=decide_eq_true oM
 first
 |clear A2V
  exact Ys
 |exact Yt):p:=h
theorem aW(h:p:=by
 by_cases h0:x.amt+y.amt=0
 ·rw [Ms a b h h2 h0];exact ih
 rw [MZ a b h h2 h0];intro z hz;rcases List.mem_cons.1 hz with rfl | hz
 first
 |clear A3z
  ·show -(c+d)≤x.amt+y.amt∧x.amt+y.amt≤c+d;omega
  exact ih z hz
 |·exact hx
  exact ih z hz):p:=h
theorem Ld(h:p:=by
 rintro e w6 ⟨rfl,b6⟩;rw [hl];have ho6:Bl w6 w0 (.slice ao EE.length co) EE:=AC.keep ho5 b6;have hB6:=AD b6 hB5;have P6:=P5.keep b6
 first
 |clear A33
  have hP6:=P6.lt;clear p0 p1 p2 x0 x1 x2 ho5 P5 hl;obtain ⟨p0,p1,p2⟩:=P6.c3;go_wp2_with (at_builtin;refine Df DS Tryz.underlying55 rfl dC dC (fun _=>rfl) Dh rfl _ _ rfl w0 _ EE rfl (AC.alloc ho6 _) _ ⟨yk,yc,ya⟩ rfl (BC _ _ _ rfl) oM (Nat.le_trans hB6.size (Aj _ _)) ?_)
  exact aX
 |have X6:=X5.keep b6;have hP6:=P6.lt
  first
  |clear A34
   have B6Z:=trivial;exact qQ
  |have hX6:=X6.lt;(have hbo:∀ b∈(Value.slice ao EE.length co).ownBlock.toList,b≠wr.heap.size:=fun b hb e=>by have:=HOB.out b hb;omega);have hbx:∀ b∈(Value.slice ao EE.length co).ownBlock.toList,b≠w.heap.size:=fun b hb e=>A5d;exact qQ):p:=h
theorem Tb(h:p:=by
 clear hl1;go_wp2_with fail
 refine G1.mono ?_;rintro e w2 ⟨rfl,rfl⟩;clear G1
 first
 |clear B1b
  go_upto_region 6 with fail
  have B1T:=trivial;exact jL
 |clear B1U
  go_upto_region 7 with fail
  clear q0 z0;have B1V:=trivial;exact jX
 |go_upto_region 5 with fail
  have B1a:=trivial;exact i8):p:=h
theorem qR(h:p:=by
 have HIN:=lH hin;have hneq:¬ ue=g:=fun e=>nE EN;have hneq':¬ g=ue:=fun e=>nE EN;have hul:=PE.lt;clear hL hoks OKS hnr hown pr hin
 first
 |clear B6a
  go_upto_region 15 with fail
  go_cut [] (fun wq=>∃ F',Wk F' (.slice (some ⟨p1,0,none⟩) n cx) wq g B {b with htlcs:=L} [] 0∧Wf g F F' w7 wq)
  case first =>
   refine wp_region_noPanic ?_;refine wp_region_held_drew (S:=fun w'=>w'.cell? ⟨ue,1,none⟩=.some ky∧w'.cell? ⟨ue,2,none⟩=.some ch∧w'.cell? ⟨ue,3,none⟩=.some tt∧w'.cell? ⟨ue,4,none⟩=.some am) kR ?_ (fun hHeld => ?_)
   ·exact Bc
   exact j5
  case rest =>
   exact PI
 |go_upto_region 10 with fail
  go_cut [] (fun wq=>∃ F',Wk F' (.slice (some ⟨p1,0,none⟩) n cx) wq g B {b with circles:=L} [] 0∧Wf g F F' w7 wq)
  case first =>
   refine wp_region_noPanic ?_;refine wp_region_held_drew (S:=fun w'=>w'.cell? ⟨ue,1,none⟩=.some ky∧w'.cell? ⟨ue,2,none⟩=.some ch∧w'.cell? ⟨ue,3,none⟩=.some tt∧w'.cell? ⟨ue,4,none⟩=.some am∧w'.cell? ⟨ue,5,none⟩=.some fe) kR ?_ (fun hHeld => ?_)
   ·exact Bc
   have B6b:=trivial;exact j5
  case rest =>
   have B6c:=trivial;exact PI):p:=h
theorem qS(h:p:=by
 rintro e w4 ⟨rfl,hb⟩;have B6d:=trivial;exact Ly):p:=h
theorem od(h:p:=by
 have q1:=FQ.cell 1 _ rfl;have z1:=FQ.fz 1 AF;have hwr:IntKind.i64.wrap (b7.next+1)=b7.next+1:=Ao;have FN:=FH.next (b7.next+1) uI;have hgl:=FQ.lt
 first
 |clear B6e
  have GU:=FU.otherC g 1 (.int .i64 (b7.next+1)) h2g;have B6f:=trivial;exact qT
 |have GU:=U2.otherC g 1 (.int .i64 (b7.next+1)) h2g;exact qT):p:=h
theorem qU(h:p:=by
 have b0:=BN hbg b0;have b1:=BN hbg b1;have b2:=BN hbg b2;clear hbg;obtain ⟨wr,hwr⟩:∃ wr,wr=wg:=⟨_,rfl⟩
 first
 |clear B6g
  subst hwr
  first
  |clear B6h
   cases hM:CJ (xa+ya)
   ·(have hno:Hid (Au la lb=false):=by unfold Hid;rw [hgk0.out,Yg (x:=⟨yk,yc,xa⟩) (y:=⟨yk,yc,ya⟩) _ _ HL1.out HL2.out,hM];rfl);have IN:=fun w=>Cy (xa+ya) (-1125899906842624) 1125899906842624 w;simp only [show Ad (xa+ya) (-1125899906842624) 1125899906842624=false from hM] at IN;clear hgo0 hgk0 hM;(go_wp2_with fail);refine (IN _).mono ?_;rintro e w6 ⟨rfl,rfl⟩;go_wp2;refine bodyPost_ret (by simp only [results,Tryz.results185];go_simp;rfl) rfl ?_;exact ⟨.inr ⟨hno.out,rfl⟩,hB⟩
   have hMb:=of_decide_eq_true hM;(have hgk:Hid (Au la lb=Au a b):=by unfold Hid;rw [hgk0.out,Yg (x:=⟨yk,yc,xa⟩) (y:=⟨yk,yc,ya⟩) _ _ HL1.out HL2.out,hM,Bool.true_and]);have IN:=fun w=>Cy (xa+ya) (-1125899906842624) 1125899906842624 w;simp only [show Ad (xa+ya) (-1125899906842624) 1125899906842624=true from hM] at IN;clear hgk0 hM hMb;by_cases hz:xa+ya=0
   ·(have hgo:Hid (AN la lb=EE ++ AN a b):=by unfold Hid;rw [hgo0.out,Ms (x:=⟨yk,yc,xa⟩) (y:=⟨yk,yc,ya⟩) _ _ HL1.out HL2.out hz]);have e1:(xa+ya != 0)=false:=Ek;have B6i:=trivial;exact qV
   (have hgo:Hid (AN la lb=(EE ++ [⟨yk,yc,xa+ya⟩]) ++ AN a b):=by unfold Hid;rw [hgo0.out,MZ (x:=⟨yk,yc,xa⟩) (y:=⟨yk,yc,ya⟩) _ _ HL1.out HL2.out hz];simp);have e1:(xa+ya != 0)=true:=Ek;exact qV
  |first
   |clear B6j
    first
    |clear B6k
     have B6l:=trivial;exact kK
    |clear LEY;have hw:IntKind.i64.wrap (xa+ya)=xa+ya:=Ao;(go_upto_region 3 with fail);have B6m:=trivial;exact qW
   |first
    |clear B6n
     exact kL
    |clear LES;(go_upto_region 12 with fail);have B6o:=trivial;exact gQ
 |subst hwr
  first
  |clear B6p
   (go_upto_region 12 with fail);exact iX
  |exact kK):p:=h
theorem Rg(h:p:=by
 have hbd:=vV hg;have ha:0≤am∧am≤1125899906842624:=hbd am sM;have hf:0≤fe∧fe≤1125899906842624:=hbd fe sM;have hwl:=hb.wallet;unfold Am at hwl
 first
 |clear A73
  clear hbd;have hn:=decide_eq_false hne0;have en:(b.next == 1125899906842624)=false:=by simp [hne0]
  clear hne0;exact Rl
 |have hcl:∀ c∈b.chans,0≤c.loc∧c.loc≤1125899906842624:=fun c hc=>(hb.ck c hc).loc
  first
  |clear A4f
   have hcd:=vZ ho;have HC:=lH hcd;clear hbd hcd;have B6q:=trivial;exact Rf
  |clear hbd;exact Rf):p:=h
theorem qX(h:p:=by
 clear c0;have AT:=H5.at ai aid hso;have cA:_=some (Value.int IntKind.i64 (a.rem)):=AT.1 3 _ rfl;have zA:=AT.2.1 (ia*7+3);have x3:=Q.cell 3 _ rfl
 first
 |clear B6r
  have x4:=Q.cell 4 _ rfl;have hwr5:IntKind.i64.wrap (a.rem+(q3+q4))=a.rem+(q3+q4):=Ao;have hwr6:IntKind.i64.wrap (q3+q4)=q3+q4:=Ao;have FIN:=AT.2.2 3 (.int .i64 (a.rem+(q3+q4))) (AO 0 (q3+q4)) dC FJ (EG aok uI uI);have B6s:=trivial;exact Io
 |have hwr3:IntKind.i64.wrap (a.rem+q3)=a.rem+q3:=Ao;have FIN:=AT.2.2 3 (.int .i64 (a.rem+q3)) (AO 0 q3) dC FJ (EG aok uI uI);have B6t:=trivial;exact Io):p:=h
theorem qY(h:p:=by
 clear c0;have AT:=H5.at ai aid hso;have cA:_=some (Value.int IntKind.i64 (a.loc)):=AT.1 2 _ rfl;have zA:=AT.2.1 (ia*7+2);have x3:=Q.cell 3 _ rfl
 first
 |clear B6u
  have x4:=Q.cell 4 _ rfl;have hwr8:IntKind.i64.wrap (a.loc+(q3+q4))=a.loc+(q3+q4):=Ao;have hwr9:IntKind.i64.wrap (q3+q4)=q3+q4:=Ao;have FIN:=AT.2.2 2 (.int .i64 (a.loc+(q3+q4))) (AO (q3+q4) 0) dC FJ (EG aok uI uI);have B6v:=trivial;exact Io
 |have hwr1:IntKind.i64.wrap (a.loc+q3)=a.loc+q3:=Ao;have FIN:=AT.2.2 2 (.int .i64 (a.loc+q3)) (AO q3 0) dC FJ (EG aok uI uI);have B6w:=trivial;exact Io):p:=h
theorem OQ(h:p:=by
 clear u0 u1 u2 u3 u4 u5 u6 u7 u8 u9 u10 u11 u12 u13 d0 d1;replace PX:=PX.keep bx;replace DX:=DX.keep bx;replace VX:=VX.keep bx;replace BX:=AD bx BX
 first
 |clear A7z
  replace EV:=EV.keep bx;have B6x:=trivial;exact qZ
 |exact qZ):p:=h
theorem kY(h:p:=by
 have ho:=AC.keep ho hbg;have hB:=AD hbg hB;have a0:=BN hbg a0;have a1:=BN hbg a1;have a2:=BN hbg a2
 first
 |clear A96
  have B6g:=trivial;exact qU
 |clear hbg;obtain ⟨wr,hwr⟩:∃ wr,wr=wg:=⟨_,rfl⟩;subst hwr;have B6y:=trivial;exact kL):p:=h
theorem qb(h:p:=by
 clear CS;exact UC):p:=h
theorem qc(h:p:=by
 clear hx ht hok hsum;go_wp2;go_roundw
 case rel=>exact ⟨k+1,AA,Ab,hall2,hsort2,hB7⟩
 case measure=>simp only [intOf];omega):p:=h
theorem TV(h:p:=by
 have B6z:=trivial;exact Ja):p:=h
theorem L8(h:p:=by
 obtain ⟨rfl,H5,W2⟩:=hcut;exact fO):p:=h
theorem fy(h:p:=by
 obtain ⟨a1',m',cp1',e,-,-,-,-,hat⟩:=(V.dirty.keepB hB (Nat.le_refl _)).at_;have B60:=trivial;exact DL):p:=h
theorem gT(h:p:=by
 obtain ⟨a0',n',cp0',e,-,-,-,-,hat⟩:=(V.cells.keepB hB (Nat.le_refl _)).at_;have B61:=trivial;exact DL):p:=h
theorem Z5(h:p:=by
 obtain ⟨i0,hi,hz0,hz1,hz2⟩:=info_parts Dd;obtain ⟨a,n,c,rfl,hxn0,hnc⟩:=VS.form V;have hxn:=lH hxn0;clear hxn0;by_cases h0:n=0
 first
 |clear A3g
  ·subst h0;have hx0:xs = []:=List.eq_nil_of_length_eq_zero hxn.out;(go_enter Tryz.func290,Tryz.ntmps290);have B5k:=trivial;exact pj
  have hne:Hid (xs.length≠0):=by unfold Hid;rw [hxn.out];exact h0
  go_enter Tryz.func290,Tryz.ntmps290
  go_wp2_with fail
  refine (QA _ xs _ (V.keep (bW)) hl).mono ?_;rintro e w2 ⟨⟨v',rfl,own⟩,b2⟩;have own':=AC.le (B':=w.heap.size) own (by first | exact Nat.le_refl _ | (simp;done) | (simp;omega));have b3:Below w w w2:=AD b2 (bW);obtain ⟨va,vc,rfl,-⟩:=AK.form own';go_wp2;go_ret;exact ⟨⟨_,rfl,by rw [YU hne.out];exact own'⟩,b3⟩
 |·subst h0;have hx0:xs = []:=List.eq_nil_of_length_eq_zero hxn.out;(go_enter Tryz.func285,Tryz.ntmps285);exact pj
  have hne:Hid (xs.length≠0):=by unfold Hid;rw [hxn.out];exact h0
  go_enter Tryz.func285,Tryz.ntmps285
  go_wp2_with (at_builtin;refine Da Dd Tryz.underlying161 rfl dC dC De Ed rfl _ _ rfl w (.slice (some ⟨w,0,none⟩) 0 0) [] rfl (World.ownsRow_made w #[] 0 (Nat.le_refl _) FD rfl) _ xs rfl (V.keep (bW)) sM oM (Aj _ _) ?_)
  intro v1 w2 own hb hg;have b3:Below w w w2:=(Ae (Below.refl _ w) _).trans hb;have own:AK w2 w v1 xs:=own;obtain ⟨va,vc,rfl,-⟩:=AK.form own;go_wp2;go_ret;exact ⟨⟨_,rfl,by rw [YU hne.out];exact own⟩,b3⟩):p:=h
theorem kT(h:p:=by
 refine wpQuiet_nil ?_;rintro _ ⟨gv,rfl⟩;obtain ⟨wh,hbh⟩:=gv;dsimp only;clear x0g x1g x2g x3g p0g p1g p2g p3g p4g p5g
 first
 |clear A92
  exact qd
 |first
  |clear A7T
   exact qd
  |have hBh:=AD hbh hB6;go_wp2;go_roundw
   case rel=>exact ⟨k+1,AA,Ab,hall2,hsort2,hBh⟩
   case measure=>simp only [intOf];omega):p:=h
theorem pB(h:p:=by
 obtain ⟨hd0,hd1,hd2⟩:=hd;have Hd1:=lH hd1;have Hd2:=lH hd2;clear hd1 hd2;by_cases hbr:4294967296≤r+d1;rotate_left
 first
 |clear B4r
  first
  |clear A2s
   ·have B62:=trivial;exact ME
   have B63:=trivial;exact qe
  |·have B64:=trivial;exact ME
   exact qe
 |first
  |clear A2q
   ·have B65:=trivial;exact Ka
   have B66:=trivial;exact qf
  |·have B67:=trivial;exact Ka
   exact qf):p:=h
theorem qg(h:p:=by
 have hall1:Hid (hs1=hs2):=Jh HM1.out HM2.out A5V;have l5:=LY.cell 5 _ rfl;have a5:=AY.cell 5 _ rfl;clear htk;go_wp2
 first
 |clear B68
  go_loopw [7,93] (fun _ i wr=>∃ k:Nat,k≤q1∧i=k∧Hid (zs1.take k=zs2.take k)∧Below w1 w1 wr) (fun _ i _=>q1 - (intOf i).toNat)
  case atStart=>exact ⟨0,Nat.zero_le _,rfl,rfl,hB1⟩
  case round =>
   obtain ⟨k,hk,rfl,htk,hB2⟩:=hrel;have hBw:=AD hB2 B1;have B69:=trivial;exact qh
 |go_loopw [7,103] (fun _ i wr=>∃ k:Nat,k≤q1∧i=k∧Hid (zs1.take k=zs2.take k)∧Below w3 w3 wr) (fun _ i _=>q1 - (intOf i).toNat)
  case atStart=>exact ⟨0,Nat.zero_le _,rfl,rfl,hB1⟩
  case round =>
   obtain ⟨k,hk,rfl,htk,hB2⟩:=hrel;have hBw:=AD hB2 B3;exact qh):p:=h
theorem qh(h:p:=by
 have LY:=LX.keep hB2;have AY:=AX.keep hB2;have l5:=LY.cell 5 _ rfl;have a5:=AY.cell 5 _ rfl;by_cases hlt:k<q1;rotate_left
 first
 |clear B69
  ·have hall2:Hid (zs1=zs2):=Jh HQ1.out HQ2.out dK;clear htk
   have hyes:Hid P:=by
    unfold Hid;rw [← HP.out];rw [hall0.out,hall1.out,hall2.out]
   exact qi
  have B3Y:=trivial;exact oJ
 |·have hall2:Hid (zs1=zs2):=Jh HQ1.out HQ2.out dK;clear htk
   have hyes:Hid P:=by
    unfold Hid;rw [← HP.out];exact ⟨HB1.out,HB2.out,by rw [hall0.out,hall1.out,hall2.out]⟩
   exact qi
  exact oJ):p:=h
theorem mf(h:p:=by
 rintro e w6 ⟨rfl,H6,W6⟩;exact MA):p:=h
theorem qj(h:p:=by
 clear hx ht hok k0 k1 k2;go_wp2;go_roundw
 case rel=>exact ⟨k+1,AA,Ab,hall2,hB6⟩
 case measure=>simp only [intOf];omega):p:=h
theorem qk(h:p:=by
 have k3:(4294967296:Int)≤r+d1:=AA;clear hbig hq hr b1 b2 b3 b4 hbr hd0 hgt hp2;go_wp2;go_meet;exact ⟨cP,rfl⟩):p:=h
theorem mi(h:p:=by
 refine tR 10 fun K hK => ?_;have B7A:=trivial;exact Lm):p:=h
theorem Td(h:p:=by
 have H0:=lH h0;clear h0;exact Ie):p:=h
theorem qm(h:p:=by
 have hall0:Hid (cs1=cs2):=Jh HN1.out HN2.out A5U;have l4:=LY.cell 4 _ rfl;have a4:=AY.cell 4 _ rfl;clear htk;go_wp2
 first
 |clear B7B
  go_loopw [6,75] (fun _ i wr=>∃ k:Nat,k≤m1∧i=k∧Hid (hs1.take k=hs2.take k)∧Below w1 w1 wr) (fun _ i _=>m1 - (intOf i).toNat)
  case atStart=>exact ⟨0,Nat.zero_le _,rfl,rfl,hB0⟩
  case round =>
   obtain ⟨k,hk,rfl,htk,hB1⟩:=hrel;have hBw:=AD hB1 B1;have B7C:=trivial;exact qn
 |go_loopw [6,85] (fun _ i wr=>∃ k:Nat,k≤m1∧i=k∧Hid (hs1.take k=hs2.take k)∧Below w3 w3 wr) (fun _ i _=>m1 - (intOf i).toNat)
  case atStart=>exact ⟨0,Nat.zero_le _,rfl,rfl,hB0⟩
  case round =>
   obtain ⟨k,hk,rfl,htk,hB1⟩:=hrel;have hBw:=AD hB1 B3;exact qn):p:=h
theorem RU(h:p:=by
 go_upto_region 1 with fail
 refine cJ fun w0 L0 b0 hz => ?_;refine cW fun w1 R0 b1 => ?_;have LX:=L0.keep b1;have B1:=AD b1 b0
 first
 |clear A4B
  have VX:=V.lines.keep B1;have R0l:=R0.lt;rw [hz] at R0 R0l;clear L0 b0 b1;obtain ⟨l0,l1⟩:=LX.c2;obtain ⟨r0,r1⟩:=R0.c2;go_region_with (go_at_call 183;refine (uM _ l.lines _ (VX.keep (bW)) hl).mono ?_;rintro e w2 ⟨⟨F,v2,rfl,O2⟩,b2⟩;obtain ⟨a2,n2,c2,rfl⟩:=O2.form;have b12:Below w1 w1 w2:=Below.trans (bW) b2;have LX2:=LX.keep b12;have RX2:=R0.keep b12;have l0:=LX2.cell 0 _ rfl;have r0:=RX2.cell 0 _ rfl;have r1:=RX2.cell 1 _ rfl;have z0:=RX2.fz 0 zS;have z1:=RX2.fz 1 EM;have hl2:=LX2.lt;have hr2:=RX2.lt)
  all_goals
   go_wp2
   refine bodyPost_ret (by simp only [results,Tryz.results83];go_simp;rfl) rfl ?_
   exact ⟨⟨F,_,rfl,F,((O2.putB (by show _<w1.heap.size;omega)).putB (by show _<w1.heap.size;omega)).le (by show _≤w1.heap.size;omega),rfl,O2.nd,hi.out⟩,Below.setCell (Below.setCell (B1.trans (b12.mono oM)) Nw _) Nw _⟩
 |rw [hz] at R0;clear L0 b0 b1 hz;obtain ⟨l0,l1⟩:=LX.c2
  first
  |clear B7D
   have CO:=Pv 0 (.slice none 0 0) [] w1 (VS.nil _ _);have B02:=trivial;exact lj
  |have CO:=MJ 0 (.slice none 0 0) [] w1 (VS.nil _ _);exact lj):p:=h
theorem Z8(h:p:=by
 have hok:Hid (DD ⟨sq,ep,body⟩=true):=A5X;obtain ⟨a,n,c,rfl,hn0,-⟩:=VS.form V;rw [hn0] at h4;have HN:=lH hn0;clear hn0
 first
 |clear A3j
  go_enter Tryz.func160,Tryz.ntmps160
  have B7E:=trivial;exact qo
 |go_enter Tryz.func181,Tryz.ntmps181
  exact qo):p:=h
theorem qp(h:p:=by
 have HNF:=lH hnf;clear hnf V4;go_wp2_with fail
 refine (D5 F _ g B b [] _ 14 _ _ H4).mono ?_;rintro e w6 ⟨rfl,H5,W6⟩
 first
 |clear B7F
  have h14:decide ((20:Int)≤(nf:Int))=decide (20≤b.circles.length):=dd (by rw [HNF.out];omega);have B7G:=trivial;exact pP
 |have h14:decide ((60:Int)≤(nf:Int))=decide (60≤b.htlcs.length):=dd (by rw [HNF.out];omega);exact pP):p:=h
theorem qr(h:p:=by
 go_upto_region 5 with fail
 go_quiet (fail)
 go_wp2_with fail
 go_meet
 case rel=>exact ⟨k,hk,rfl,hpl,bW⟩):p:=h
theorem B7H(h:p:=by
 rcases List.mem_cons.1 hm with e | hm
 ·omega
 rcases FM uh hm with h | h
 ·have:=(H.lt.2.2 uh h).2;omega
 exact hun.out h):p:=h
theorem Zo(h:p:=by
 obtain ⟨g',off',x,e,-,hc,hx2,-⟩:=BtF.cell HF.out (k:=i+j) oM;have B7I:=trivial;exact JO):p:=h
theorem qs(h:p:=by
 have FW:=FIN.2;have FK:=FIN.1;obtain ⟨PE',nE'⟩:=FW.box PE nE;have WX':=WX.trans FW;clear FIN AT FW H5 PE nE WX
 first
 |clear B7J
  go_upto_region 12 with fail
  generalize World.setCell w8 ⟨p1,ia*7+2,none⟩ (Value.int IntKind.i64 (A.loc - (am+fe)))=wb1 at FK PE' WX' ⊢;have B7K:=trivial;exact PC
 |go_upto_region 17 with fail
  generalize World.setCell w8 ⟨p1,ia*7+3,none⟩ (Value.int IntKind.i64 (A.rem - (am+fv)))=wb1 at FK PE' WX' ⊢;exact PC):p:=h
theorem UE(h:p:=by
 have HOK:=lH hok;clear hs1 hs2 hs3 hs4 hs5 hok;go_wp2_with fail
 refine C3.mono ?_;rintro e w3 ⟨⟨v3,rfl,O3⟩,b3⟩
 first
 |clear B7L
  obtain ⟨SB,hSB⟩:∃ l,l=Dv ⟨sq,ep,([]:List UInt8)⟩:=⟨_,rfl⟩;have hSl:SB.length=128:=by rw [hSB];exact XY _ (by show 0≤100;omega)
  have B7M:=trivial;exact kf
 |obtain ⟨SB,hSB⟩:∃ l,l=Dv ⟨sq,ep,bd⟩:=⟨_,rfl⟩;have hSl:SB.length=128:=A5Y;exact kf):p:=h
theorem Zn(h:p:=by
 have e:j=size:=AA;subst e;have hall:(part xs i j).take j=part xs i j:=List.take_of_length_le aG;rw [hall];go_wp2
 first
 |clear A3I
  refine bodyPost_ret (by simp only [results,Tryz.results227];go_simp;rfl) rfl ?_;exact EI
 |refine bodyPost_ret (by simp only [results,Tryz.results220];go_simp;rfl) rfl ?_;exact EI):p:=h
theorem ig(h:p:=by
 clear hx ht h1 h2;exact T8):p:=h
theorem LZ(h:p:=by
 rintro e w1 ⟨rfl,hb⟩;exact lx):p:=h
theorem qt(h:p:=by
 go_wp2_with fail
 refine (Mn _ _ d _ (V.keep B1)).mono ?_;rintro e w2 ⟨rfl,b2⟩;rw [hok];have O2:=O1.keep b2
 first
 |clear B7N
  have B2:=AD b2 B1;clear O1 P1 p0 p1 hok;go_wp2_with fail
  refine bodyPost_ret dY rfl ?_;rw [hr.out];exact ⟨⟨_,_,rfl,O2.le oM⟩,B2⟩
 |have P2:=P1.keep b2;have B2:=AD b2 B1;have b02:=AD b2 b1;clear O1 P1 p0 p1 hok b2 b1;go_wp2_with fail
  go_loopw [4,5,6,7,8,9,10] (fun out last i _ _ _ _ wr=>∃ (k:Nat) (pre:List Sc) (us:List Value) (lst:Int),i=k∧k≤n∧last=lst∧ON Dp wr w0 out pre us∧pre.length=k∧(0≤lst∧lst≤16000000)∧Hid (BQ d=pre ++ DM d k lst (n - k))∧Below w0 w0 wr) (fun _ _ i _ _ _ _ _=>n - (intOf i).toNat)
  case atStart=>exact ⟨0,[],[],0,rfl,Nat.zero_le _,rfl,O2,rfl,AA,by unfold Hid;rw [hr.out,HN.out];rfl,b02⟩
  case round =>
   obtain ⟨k,pre,us,lst,rfl,hk,rfl,ho,hpl,hlb,hgo,hB⟩:=hrel;have hBw:=AD hB B0;have P3:=P0.keep hB;obtain ⟨p0,p1⟩:=P3.c2;have HPL:=lH hpl;obtain ⟨ao,co,rfl,-,hpm⟩:=ho.form;clear O2 b02 P2 B2 hpl;by_cases hlt:k<n;rotate_left
   ·have B7O:=trivial;exact aQ
   have hrl:=Uo HOK.out (i:=k) Nf;have HRL:=lH hrl;clear hrl;(go_wp2_with fail);refine (A1n _ _ d k _ (V.keep hBw) HOK.out Nf).mono ?_;rintro e w3 ⟨⟨v3,rfl,O3⟩,b3⟩;obtain ⟨a3,c3,rfl,-⟩:=AK.form O3;have ho3:=ho.keep b3;have hB3:=AD b3 hB;have z03:=hB3.size;clear p0 p1 P3 ho hB;(go_wp2_with fail);refine (uO _ (DG d k) _ O3.vs HRL.out).mono ?_;rintro e w4 ⟨hq4,b4⟩;have ho4:=ho3.keep b4;have hl3:=ho3.lt;have hB4:=AD b4 hB3;have z34:=b4.size;clear O3 ho3 b3 b4 hB3;rcases hq4 with ⟨s,v4,hs,rfl,O4⟩ | ⟨hs,rfl⟩
   ·have B59:=trivial;exact aR
   have B7P:=trivial;exact aT):p:=h
theorem bE(h:p:=by
 obtain ⟨g1,g2,g3,g4,g5,g6⟩:=hg h0;clear h0;obtain ⟨y,z,l,P,-,VL⟩:=H.cells;have hgl:=P.lt;have p6:=P.cell 6 _ rfl
 first
 |clear A4O
  have OL:AC Ln.enc 3 178 (w.alloc (.cells #[kd,ch,n] 178)) w (.slice (some ⟨w,0,none⟩) 1 1) [⟨kd,ch,n⟩]:=World.ownsRow_lit w #[kd,ch,n] 1 (Nat.le_refl _) FD rfl;have VO:BE (w.alloc (.cells #[kd,ch,n] 178)) (w.alloc (.cells #[kd,ch,n] 178)).heap.size (.slice (some ⟨w,0,none⟩) 1 1) [⟨kd,ch,n⟩]:=AC.vs (enc:=Ln.enc) (sz:=3) (ok:=Ln.ok) (xs := [(⟨kd,ch,n⟩:Ln)]) (fun _=>rfl) OL (fun y hy=>by rw [List.mem_singleton.1 hy];exact g4);have b0:=bA w [kd,ch,n] 178;have CM:=Ur l (.slice (some ⟨w,0,none⟩) 1 1) ls [⟨kd,ch,n⟩] _ (VL.keep b0) VO g1 sM g2 (fun y hy=>by rw [List.mem_singleton.1 hy];exact g3);have G5:=lH g5;have G6:=lH g6;clear g1 g2 g3 g4 g5 g6 OL VO VL;go_enter Tryz.func171,Tryz.ntmps171
  go_wp2_with fail
  refine CM.mono ?_;rintro e w2 ⟨hq,b2⟩;rcases hq with ⟨-,v',rfl,hr⟩ | ⟨hq,-⟩
  ·obtain ⟨a',c',rfl⟩:=Bl.form hr;have bb:=b0.trans (b2.mono b0.size);have P2:=P.keep bb;have f6:=P2.fz 6 AF;have HL:=H.lines bb (hr.le b0.size) G6.out;have hgl2:=P2.lt;clear p6 b0 b2 P CM hr bb;have p6:=P2.cell 6 _ rfl;generalize (AN ls [⟨kd,ch,n⟩]).length=ln at HL ⊢;exact qu
  rw [G5.out] at hq;exact absurd hq sM
 |have CM:=U6 l ls kd ch n w VL g1 g2 g3;have G6:=lH g6;clear g1 g2 g3 g4 g5 g6 VL;go_enter Tryz.func151,Tryz.ntmps151
  go_wp2_with fail
  refine CM.mono ?_;rintro e w2 ⟨⟨v',rfl,hr⟩,bb⟩;obtain ⟨a',c',rfl⟩:=Bl.form hr;have P2:=P.keep bb;have f6:=P2.fz 6 AF;have HL:=H.lines bb hr G6.out;have hgl2:=P2.lt;clear p6 P CM hr bb;have p6:=P2.cell 6 _ rfl;generalize (At ls ⟨kd,ch,n⟩).length=ln at HL ⊢;exact qu):p:=h
theorem qn(h:p:=by
 have LY:=LX.keep hB1;have AY:=AX.keep hB1;have l4:=LY.cell 4 _ rfl;have a4:=AY.cell 4 _ rfl;by_cases hlt:k<m1
 first
 |clear B7C
  ·have B3V:=trivial;exact oI
  have B68:=trivial;exact qg
 |·exact oI
  exact qg):p:=h
theorem bJ(h:p:=by
 clear hx ht hxy;go_wp2;go_round
 case rel=>exact ⟨k+1,AA,Ab,hgo⟩
 case measure=>simp only [intOf];omega):p:=h
theorem lD(h:p:=by
 have B7Q:=trivial;exact Lv):p:=h
theorem jg(h:p:=by
 have hno:Hid (G8 W=0):=by unfold Hid;unfold G8;rw [hw];rfl
 clear hw;go_wp2;go_ret;exact ⟨SL,BX⟩):p:=h
theorem qv(h:p:=by
 have B7R:=trivial;exact Dm):p:=h
theorem qV(h:p:=by
 clear hgo0 hz;go_wp2_with fail
 refine (IN _).mono ?_;rintro e w6 ⟨rfl,rfl⟩;clear IN
 first
 |clear B6i
  go_upto_region 8 with fail
  exact qW
 |have hga2:ga<wr.heap.size:=Lib.lt_of_cell a0;go_wp2_with (at_builtin;refine Df DS Tryz.underlying55 rfl dC dC (fun _=>rfl) Dh rfl _ _ rfl w _ EE rfl (AC.alloc ho _) _ ⟨yk,yc,xa+ya⟩ rfl (BC _ _ _ rfl) oM (Nat.le_trans hB.size (Aj _ _)) ?_)
  intro v8 w8 o8 b8 g8;obtain ⟨E2,hE2⟩:∃ l,l=EE ++ [(⟨yk,yc,xa+ya⟩:Ln)]:=⟨_,rfl⟩;exact TF):p:=h
theorem j8(h:p:=by
 have hown:=Cj OR;have HOWN:=lH hown;have HOKS:=lH hoks;have HL:=lH hL;have HNR:=lH hnr
 first
 |clear A9g
  first
  |clear B5f
   have pw:w7.cell? ⟨g,4,none⟩=some (.slice ar nr cr):=pr;have hin:=H5.htIn pw;have B7S:=trivial;exact nn
  |have hnrS:nr≤60:=AA;have pw:w7.cell? ⟨g,4,none⟩=some (.slice ar nr cr):=pr;have hin:=H5.htIn pw;have B6a:=trivial;exact qR
 |first
  |clear B7T
   have pw:w7.cell? ⟨g,5,none⟩=some (.slice ar nr cr):=pr;have hin:=H5.ciIn pw;exact nn
  |have hnrS:nr≤60:=AA;have pw:w7.cell? ⟨g,5,none⟩=some (.slice ar nr cr):=pr;have hin:=H5.ciIn pw;exact qR):p:=h
theorem jl(h:p:=by
 have LY:=LX.keep hB0;have AY:=AX.keep hB0;have l3:=LY.cell 3 _ rfl;have a3:=AY.cell 3 _ rfl;by_cases hlt:k<n1
 first
 |clear B3i
  ·have B3Z:=trivial;exact oK
  have B7B:=trivial;exact qm
 |·exact oK
  exact qm):p:=h
theorem bH(h:p:=by
 unfold Bn;rw [h];obtain ⟨F0,G,y',z',l',rfl,P,K,O,hd,h1,h2⟩:=H;have k4:=P.cell 4 _ rfl;have k5:=P.cell 5 _ rfl
 first
 |clear A4c
  have k6:=P.cell 6 _ rfl;rw [hy] at k4;rw [hz] at k5;rw [hl] at k6;obtain rfl:=Option.some.inj k4;obtain rfl:=Option.some.inj k5;obtain rfl:=Option.some.inj k6;exact ⟨F0,G,x,y,z,l,he,K.le hB,O.le hB,hd,hb⟩
 |rw [hy] at k4;rw [hz] at k5;obtain rfl:=Option.some.inj k4;obtain rfl:=Option.some.inj k5;exact ⟨F0,[],x,y,z,_,he,K.le hB,Es.zero _ _,(by simpa using (List.nodup_append.1 hd).1),hb⟩):p:=h
theorem qw(h:p:=by
 have B7U:=trivial;exact GV):p:=h
theorem jO(h:p:=by
 refine tK 46 ?_;exact KX):p:=h
theorem Sj(h:p:=by
 go_wp2_with fail
 have B7V:=trivial;exact GO):p:=h
theorem ZZ(h:p:=by
 obtain ⟨a,len,cap,hv,-,-,hs⟩:=id V0;subst hv;have hl:=hs.lenB;have hln:=hs.1;by_cases h:m - (len:Int)<0
 first
 |clear A2x
  ·(go_enter Tryz.func215,Tryz.ntmps215);exact mg
  have H:=lH h;go_enter Tryz.func215,Tryz.ntmps215
  exact mU
 |·(go_enter Tryz.func216,Tryz.ntmps216);exact mg
  have H:=lH h;go_enter Tryz.func216,Tryz.ntmps216
  exact mU):p:=h
theorem kg(h:p:=by
 rintro e w2 ⟨rfl,bx⟩;replace P2:=P2.keep bx;replace P3:=P3.keep bx;replace BX:=AD bx BX;clear bx
 first
 |clear B0B
  have CA:=A2Q (.slice none 0 0) (.slice none 0 0) (.slice none 0 0) v Bk.new es w2 ⟨VS.nil _ _,VS.nil _ _,VS.nil _ _,Gl⟩ Qn (E.keep BX) hl;have A6x:=trivial;exact fj
 |have CA:=tW (.slice none 0 0) (.slice none 0 0) (.slice none 0 0) v Bk.new es w2 ⟨VS.nil _ _,VS.nil _ _,VS.nil _ _,Gl⟩ Qn (E.keep BX) hl;exact fj):p:=h
theorem aw(h:p:=by
 obtain ⟨y,z,l,P,-,-⟩:=H.cells;have p7:=P.cell 7 _ rfl;have f7:=P.fz 7 AF;have HC:=H.setCode c;clear P
 first
 |clear A4N
  cases q with
  | false =>
   have hk:AG false c k=k:=MN c k;(go_enter Tryz.func260,Tryz.ntmps260);go_wp2;(go_end0);exact ⟨rfl,by rw [hk];exact H,Wf.refl _ _ _⟩
  | true =>
   by_cases h0:k=0
   ·have e0:(k == 0)=true:=A8;(have hk:Hid (AG true c k=c):=by unfold Hid AG;simp [h0]);clear h0;(go_enter Tryz.func260,Tryz.ntmps260);go_wp2;(go_end0);exact ⟨rfl,by rw [hk.out];exact HC.1,HC.2⟩
   have e0:(k == 0)=false:=A8;have hk:Hid (AG true c k=k):=Jm true c k h0;clear h0;(go_enter Tryz.func260,Tryz.ntmps260);go_wp2;(go_end0);exact ⟨rfl,SD,Wf.refl _ _ _⟩
 |cases q with
  | false =>
   have hk:Hid (AG false c k=k):=MN c k;cases e0:(k != 0)
   ·exact qx
   exact qx
  | true =>
   by_cases h0:k=0
   ·have e0:(k == 0)=true:=A8;have e1:(c != 0)=true:=JM;(have hk:Hid (AG true c k=c):=by unfold Hid AG;simp [h0]);clear h0;have hc':=lH hc;clear hc;(go_enter Tryz.func149,Tryz.ntmps149);go_wp2;go_ret;exact ⟨Ag (by rw [hk.out,e1]),by rw [hk.out];exact HC.1,HC.2⟩
   have e0:(k == 0)=false:=A8;have e1:(k != 0)=true:=A8;have hk:Hid (AG true c k=k):=Jm true c k h0;clear h0;(go_enter Tryz.func149,Tryz.ntmps149);go_wp2;go_ret;exact ⟨Ag (by rw [hk.out,e1]),SD,Wf.refl _ _ _⟩):p:=h
theorem qy(h:p:=by
 have B7W:=trivial;exact Dm):p:=h
theorem fM(h:p:=by
 have alo:=ack.loc;have are:=ack.rem;have dlo:=dck.loc;have dre:=dck.rem;unfold Am at alo are dlo dre
 first
 |clear A6g
  have hso:=hb.so;obtain ⟨xx,nx,cxx,hxe,hnx,hcx,hrx⟩:=H5.row;obtain ⟨gx,rfl,-⟩:=hrx oM;have B7X:=trivial;exact JY
 |have hq1:1≤q1∧q1≤99:=A5q;have hq2:1≤q2∧q2≤99:=A5r
  first
  |clear A7Z
   obtain ⟨xx,nx,cxx,hxe,hnx,hcx,hrx⟩:=H.row;obtain ⟨gx,rfl,-⟩:=hrx oM;have HNX:=lH hnx;have hianx:ia<nx:=AA;have HA1:=lH ha1;clear hnx hrx ha1 ialt;subst hxe;obtain ⟨y,z,l,P,V,-⟩:=H.cells
   first
   |clear B7Y
    exact cD
   |exact cF
  |have c0:=PE.cell 0 _ rfl
   first
   |clear B7Z
    first
    |clear B4a
     (go_upto_region 9 with fail);have B6r:=trivial;exact qX
    |(go_upto_region 13 with fail);have B6u:=trivial;exact qY
   |first
    |clear B4Y
     (go_upto_region 9 with fail);exact qY
    |(go_upto_region 14 with fail);exact qX):p:=h
theorem ml(h:p:=by
 refine tP 12 ?_;refine tP 13 ?_;refine tP 14 ?_;refine tP 15 ?_;refine tP 16 ?_
 first
 |clear B2H
  refine tP 17 ?_;refine tP 18 ?_;refine QF (rs := [8,10]) kR sM ?_;refine LN rfl (fun K hK => ?_) ?_
  first
  |clear B7a
   ·have B7b:=trivial;exact TJ
   have B7c:=trivial;exact gS
  |·exact TJ
   exact gS
 |first
  |clear B2F
   first
   |clear B7d
    refine tR 17 fun K hK => ?_;have B7e:=trivial;exact Lm
   |refine tP 17 ?_;refine tR 18 fun K hK => ?_;have B7f:=trivial;exact Lm
  |refine tR 8 fun K hK => ?_;exact ko):p:=h
theorem bo(h:p:=by
 have hres:Hid (Bj l kd ch=0):=A52;clear hl;go_wp2;go_ret;exact ⟨CD FI,bW⟩):p:=h
theorem bp(h:p:=by
 have hres:Hid (Bj l kd ch=0):=Rj;clear ha;go_wp2;go_ret;exact ⟨CD FI,bW⟩):p:=h
theorem Zq(h:p:=by
 injection e with _ e2 _
 subst e2;have:=F.2.1
 unfold maxLen at this;omega):p:=h
theorem Lb(h:p:=by
 have B7g:=trivial;exact Ic):p:=h
theorem m0(h:p:=by
 go_wp2;go_loopw [5,13] (fun _ i wr=>∃ k:Nat,k≤n∧i=k∧Hid (xs.take k=ys.take k)∧Below w w wr) (fun _ i _=>n - (intOf i).toNat)
 case atStart=>exact ⟨0,Nat.zero_le _,rfl,rfl,Below.refl _ _⟩
 case round =>
  exact A6q):p:=h
theorem Do(h:p:=by
 rintro e w10 ⟨rfl,D⟩;try go_wp2_with fail
 go_meet
 case rel=>exact D):p:=h
theorem ZH(h:p:=by
 have B7h:=trivial;exact Qz):p:=h
theorem ZB(h:p:=by
 go_enter Tryz.func307,Tryz.ntmps307
 go_wp2_with (((first | (go_at_call 316;refine (QL _ _ _ _).mono ?_) | (go_at_call 264;refine (ML _ _ _).mono ?_));(first | (rintro e w1 ⟨rfl,rfl⟩) | (rintro e w1 ⟨rfl,hb⟩;(try (replace H0:=A7 H0 hb bS;clear hc0 hf0 hs0 hz0;obtain ⟨hc0,hf0,hs0,hz0⟩:=AS H0));(try (replace H1:=A7 H1 hb bS;clear hc1 hf1 hs1 hz1;obtain ⟨hc1,hf1,hs1,hz1⟩:=AS H1));(try (replace H2:=A7 H2 hb bS;clear hc2 hf2 hs2 hz2;obtain ⟨hc2,hf2,hs2,hz2⟩:=AS H2));(try replace S0:=S0.keep (AD hb bS));(try replace S1:=S1.keep (AD hb bS));(try replace S2:=S2.keep (AD hb bS));(try replace S3:=S3.keep (AD hb bS));(first | ((fail_if_success (have ht:=H0));have H0:=hb;obtain ⟨hc0,hf0,hs0,hz0⟩:=AS H0) | ((fail_if_success (have ht:=H1));have H1:=hb;obtain ⟨hc1,hf1,hs1,hz1⟩:=AS H1) | ((fail_if_success (have ht:=H2));have H2:=hb;obtain ⟨hc2,hf2,hs2,hz2⟩:=AS H2) | skip)))))
 go_ret2;exact ⟨LT,bW⟩):p:=h
theorem El(h:p:=by
 refine wpQuiet_nil ?_;rintro _ ⟨gw,rfl⟩;obtain ⟨wg,hbg⟩:=gw;dsimp only
 first
 |clear B7i
  clear c0g d0g c1g d1g c2g d2g;go_wp2;exact UF
 |clear B7j
  clear x1g x6g;have hBf:=AD hbg hBw;go_wp2;go_ret;exact ⟨CD FI,hBf⟩
 |clear A4l
  clear x1g x6g y4g y6g;have hBf:=AD hbg hBw;go_wp2;go_ret;exact ⟨CD FI,hBf⟩
 |clear A8U
  clear a0g a1g a2g b0g b1g b2g;exact kX
 |clear B0g
  clear c0g d0g c1g d1g c2g d2g c3g d3g c4g d4g c5g d5g c6g d6g;go_wp2;exact UF
 |clear B08
  clear x0g x1g x2g x3g x4g x5g x6g p3g d0g;exact BH
 |clear B09
  clear x0g x1g x2g x3g x4g x5g x6g;exact BH
 |clear B33
  first
  |clear B7k
   clear f0g f1g f2g d0g d1g
   first
   |clear A8M
    exact PJ
   |exact Ov
  |clear f0g f1g f2g
   first
   |clear B7l
    exact Ov
   |exact PJ
 |clear B34
  first
  |clear B7m
   clear f0g f1g f2g d0g d1g
   first
   |clear A8N
    exact PJ
   |exact Ov
  |clear f0g f1g f2g
   first
   |clear B7n
    exact Ov
   |exact PJ
 |clear B4w
  first
  |clear B7o
   clear a0g a1g a2g;exact kY
  |clear b0g b1g b2g;have ho:=AC.keep ho hbg;have hB:=AD hbg hB;exact qU
 |clear B5V
  first
  |clear B2d
   clear x0g x1g x2g x3g x4g x5g x6g p3g d0g
   first
   |clear B7p
    exact BH
   |have B5X:=trivial;exact Oy
  |clear x0g x1g x2g x3g x4g x5g x6g
   first
   |clear B7q
    exact BH
   |have B5Z:=trivial;exact Oy
 |clear B5c
  first
  |clear B2e
   clear x0g x1g x2g x3g x4g x5g x6g p3g d0g
   first
   |clear B7r
    exact BH
   |have B5Y:=trivial;exact Oy
  |clear x0g x1g x2g x3g x4g x5g x6g
   first
   |clear B7s
    exact BH
   |exact Oy
 |clear c0g d0g c1g d1g c2g d2g c3g d3g c4g d4g;go_wp2;exact UF):p:=h
theorem Zr(h:p:=by
 go_wp2;go_loop [6,9] (fun _ i=>∃ k:Nat,k≤n∧i=k∧Hid ((xs.take k).all (fun y => !decide (y=j))=true)) (fun _ i=>n - (intOf i).toNat)
 case atStart=>exact ⟨0,Nat.zero_le _,rfl,rfl⟩
 case round =>
  exact A8w):p:=h
theorem DL(h:p:=by
 injection e with e1 e2 e3
 subst e1;subst e2;subst e3
 first
 |clear A3k
  have hl:(Go.Proofs.YtahefgkdbecemaaGreat.part xs lo m).length=m:=by unfold Go.Proofs.YtahefgkdbecemaaGreat.part;rw [List.length_take,List.length_drop,F.1];omega
  refine ⟨_,_,_,rfl,AA,(fun e=>Gj),hl,by have:=F.2.1;omega,fun _ _=>trivial,fun i x hx => ?_⟩;have hi:i<m:=by have:=(List.getElem?_eq_some_iff.1 hx).1;omega
  have hx2:xs[lo+i]? = some x:=by
   unfold Go.Proofs.YtahefgkdbecemaaGreat.part at hx;rw [List.getElem?_take_of_lt hi,List.getElem?_drop] at hx;exact hx
  obtain ⟨b,o,e,hb,hc⟩:=F.2.2.2 (lo+i) x hx2;have B7t:=trivial;exact JO
 |clear A3l
  have hl:=F.1;subst hl;refine run_convert_bytes_back w 161 9 5 ⟨g,off,none⟩ c xs Tryz.underlying161 Tryz.underlying5 Tryz.underlying9 (fun j hj => ?_);obtain ⟨b,o,e,hb,hc⟩:=F.2.2.2 j xs[j] (List.getElem?_eq_getElem hj);have B7u:=trivial;exact JO
 |clear A3r
  obtain ⟨g',off',x,e,hg,hc,hx,-⟩:=BtF.cell F hk;have B7v:=trivial;exact JO
 |clear B7w
  obtain ⟨g,off,x1,rfl,hg,-,-,-⟩:=BtF.cell F (k:=1) oM;clear F;have V0:=V.keep B0;have hg0:g<w0.heap.size:=by have:=B0.size;omega
  obtain ⟨x1,c1,y1⟩:=Mo V0 (k:=1) oM;obtain ⟨x5,c5,y5⟩:=Mo V0 (k:=5) oM;obtain ⟨x6,c6,y6⟩:=Mo V0 (k:=6) oM;obtain ⟨x21,c21,y21⟩:=Mo V0 (k:=21) oM;obtain ⟨ys,hys⟩:∃ q:Bool,((x21.toNat:Int) == 1)=q:=⟨_,rfl⟩;obtain ⟨kd,hkd⟩:∃ n,n=x1.toNat:=⟨_,rfl⟩;obtain ⟨ch,hch⟩:∃ n,n=x5.toNat:=⟨_,rfl⟩;obtain ⟨tt,htt⟩:∃ n,n=x6.toNat:=⟨_,rfl⟩;obtain ⟨yv,hyv⟩:∃ n,n=x21.toNat:=⟨_,rfl⟩;have hkb:kd<256:=by rw [hkd];exact UInt8.toNat_lt _
  have hcb:ch<256:=by rw [hch];exact UInt8.toNat_lt _
  have htb:tt<256:=by rw [htt];exact UInt8.toNat_lt _
  have hyb:yv<256:=by rw [hyv];exact UInt8.toNat_lt _
  rw [← hkd] at c1 y1;rw [← hch] at c5 y5;rw [← htt] at c6 y6;rw [← hyv] at c21 y21 hys;clear hkd hch htt hyv;obtain ⟨ky,hky⟩:∃ n,n=num (part xs 2 3):=⟨_,rfl⟩;obtain ⟨am,ham⟩:∃ n,n=num (part xs 7 7):=⟨_,rfl⟩;obtain ⟨fe,hfe⟩:∃ n,n=num (part xs 14 7):=⟨_,rfl⟩
  have hE:Hid (Ej xs=⟨kd,ky,ch,tt,am,fe,ys⟩):=by
   unfold Hid Ej;rw [y1,y5,y6,y21,← hky,← ham,← hfe]
   congr 1
   rw [← hys,Bool.eq_iff_iff];simp;omega
  have HE:xs.length=22→Hid (Ej xs=⟨kd,ky,ch,tt,am,fe,ys⟩):=fun _=>hE;have HE:=lH HE;have HKY:=lH hky;have HAM:=lH ham;have HFE:=lH hfe;clear hky ham hfe y1 y5 y6 y21 hE;go_upto_region 3 with fail
  go_cut [4] (fun v wq=>v = .pointer (some ⟨w0,0,none⟩)∧Bx wq w0 [kd,I0,ch,tt,I0,I0,ys]∧Below w0 w0 wq)
  case first =>
   go_region
   all_goals
    go_wp2_with fail
    go_meet
    case rel=>exact ⟨rfl,Bx.drew (Bx.new _ _ _ _ rfl zS _ rfl),bW⟩
  case rest =>
  obtain ⟨rfl,Q1,b1⟩:=hcut;obtain ⟨w1,hw1⟩:∃ w1,w1=wc:=⟨_,rfl⟩;subst hw1;have B4f:=trivial;exact pA
 |clear A3t
  have hl:=F.1
  cases a with
  | none =>
   have h0:=hnil rfl;have hx:xs = []:=List.eq_nil_of_length_eq_zero oM;subst hx;exact run_convert_bytes_nil w 161 5 Tryz.underlying161 Tryz.underlying5 n c 9 Tryz.underlying9
  | some p =>
   cases xs with
   | nil =>
    simp at hl;subst hl;exact run_convert_bytes_back w 161 9 5 p c [] Tryz.underlying161 Tryz.underlying5 Tryz.underlying9 (fun j hj=>by simp at hj)
   | cons x r =>
    obtain ⟨b,o,e,hb,hc⟩:=F.2.2.2 0 x rfl
    injection e with e
    subst e;exact Kf V
 |clear A3w
  obtain ⟨b,off,u,e,hb,hu2,hc⟩:=hat (k - 1) lst hlast;subst e;have c10:w0.cell? ⟨b,off+(k - 1)*3+1,none⟩=.some lst.epoch:=hc 1 _ rfl;have hw:IntKind.i64.wrap ((k:Int) - 1)=((k - 1:Nat):Int):=Ao;obtain ⟨j,hj⟩:∃ j,j=k - 1:=⟨_,rfl⟩;rw [← hj] at c10 hw;have hjn:j<pre.length:=AA;have hko:∃ ao,ao=some (⟨b,off,none⟩:Addr):=⟨_,rfl⟩;clear hat hc hu2 hlast hj hl hon hno;go_wp2;go_quiet (fail)
  clear p0 p1 h1 h2 h3 c10 hw hjn;obtain ⟨ao,hao⟩:=hko;rw [← hao] at HO0 c0 hun ⊢;clear hao;exact aH
 |clear A37
  have hl:xs.length=n:=by have:=F.1;simpa using this
  by_cases h1:c=1
  ·rw [if_pos h1];have h0:n=0:=AA;subst h0;have hx:xs = []:=List.eq_nil_of_length_eq_zero hl;subst hx;exact ⟨_,_,_,rfl,AA,(fun e=>Gj),FS.nil _ _ _⟩
  rw [if_neg h1];refine ⟨_,_,_,rfl,AA,(fun e=>Gj),hl,by have:=F.2.1;omega,fun y hy=>F.2.2.1 y (List.mem_cons_of_mem _ hy),fun i y hy => ?_⟩;obtain ⟨b,o,e,hb,hc⟩:=F.2.2.2 (i+1) y (by simpa using hy);have B7x:=trivial;exact JO
 |clear A4Z
  have hl:=Fs.1;refine ⟨_,_,_,rfl,AA,fun e => ?_,by rw [List.length_drop];omega,by have:=Fs.2.1;omega,fun y hy=>Fs.2.2.1 y (List.mem_of_mem_drop hy),fun i y hy => ?_⟩
  ·rcases Nat.lt_or_ge k c with h | h
   ·rw [ha h] at e;cases e
   omega
  rw [List.getElem?_drop] at hy;have hlt:=(List.getElem?_eq_some_iff.1 hy).1;obtain ⟨b,o,e,hb,hcell⟩:=Fs.2.2.2 (k+i) y hy;exact JO
 |clear A6c
  have I:=Cm.is FS_;have hl':=I.len;clear FS_;go_loop [10,12,32] (fun ok _ i=>∃ k:Nat,k≤cs.length∧i=k∧ok = .bool (q0 && (cs.take k).all (fun c=>decide (c=0)))) (fun _ _ i=>cs.length - (intOf i).toNat)
  case atStart=>exact ⟨0,Nat.zero_le _,rfl,by rw [HQ.out];congr 1;rw [Bool.eq_iff_iff];simp⟩
  case round =>
   obtain ⟨k,hk,rfl,rfl⟩:=hrel;by_cases hlt:k<cs.length
   ·obtain ⟨g,off,x,rfl,hg,c0,hxb,hx,ht⟩:=I.at_ hlt;by_cases hxy:x=0
    ·have e0:(x != 0)=false:=Dl;(have hgo:Hid ((q0 && (cs.take k).all (fun c=>decide (c=0)))=(q0 && (cs.take (k+1)).all (fun c=>decide (c=0)))):=by unfold Hid;rw [ht.out,List.all_append];simp [hxy]);clear hx ht hxy;go_wp2;go_round
     case rel=>exact ⟨k+1,AA,Ab,by rw [hgo.out]⟩
     case measure=>simp only [intOf];omega
    have e0:(x != 0)=true:=Dl;(have hgo:Hid (false=(q0 && (cs.take (k+1)).all (fun c=>decide (c=0)))):=by unfold Hid;rw [ht.out,List.all_append];simp [hxy]);clear hx ht hxy;go_wp2;go_round
    case rel=>exact ⟨k+1,AA,Ab,by rw [← hgo.out]⟩
    case measure=>simp only [intOf];omega
   have hres:Hid (BB es=⟨bk,lg,q0 && (cs.take k).all (fun c=>decide (c=0))⟩):=by
    unfold Hid;rw [HR.out,HQ.out,List.take_of_length_le oM,Bool.and_comm];rfl
   (go_upto_region 10 with fail);have BD:Below w6 w6 w6.drew:=Below.drew (Below.refl _ _);have A8g:=trivial;exact gf
 |clear A7c
  obtain ⟨gx,rfl,-⟩:=hr oM;have hi:b.chans[k2]? = some (b.chans[k2]' SG):=List.getElem?_eq_getElem _;obtain ⟨a,haa⟩:∃ a,a=b.chans[k2]' SG:=⟨_,rfl⟩;rw [← haa] at hi;have hsa:=hs a (List.mem_of_getElem? hi);have hak:=HCK.out a (List.mem_of_getElem? hi);have hi2:(Cf (fun c=>if (b.tick+1) % 5=0 then Ef c else c) b.chans k2)[k2]? = some a:=dm;have hm2:=Vn (fun c=>if (b.tick+1) % 5=0 then Ef c else c) b.chans hi;by_cases h5:(b.tick+1) % 5=0;rotate_left
  first
  |clear B4R
   ·have B7y:=trivial;exact qz
   have B7z:=trivial;exact jT
  |·exact qz
   exact jT
 |clear A97
  have h0:n=128:=AA;subst h0;obtain ⟨g,off,x7,rfl,hg,c7,hx7,-⟩:=BtF.cell F (k:=7) oM;have hb7:DE xs 7=x7.toNat:=by unfold DE;rw [hx7.out];rfl
  have hx7b:=x7.toNat_lt
  first
  |clear A3m
   have H128:=lH h128;have HB7:=lH hb7;clear F hn hx7 h128 hb7;(go_enter Tryz.func296,Tryz.ntmps296);have B70:=trivial;exact GV
  |have hn7:=yo xs oM;rw [hb7] at hn7;have H128:=lH h128;have HB7:=lH hb7;clear F hn hx7 h128 hb7;(go_enter Tryz.func218,Tryz.ntmps218);exact JP
 |clear B0o
  obtain ⟨g,off,j,rfl,hg,cj,hjb,hx,ht⟩:=(Cm.is FK).at_ hlt;have hstep:=lH (A1y hx.out ht.out hkg.out);have VT:=VS.take VK (k:=k) oM;clear hx ht hkg FK
  first
  |clear B71
   (go_wp2_with fail);refine (Ph j _).mono ?_;rintro e w1 ⟨rfl,rfl⟩;cases hj:Gh j
   ·have hno:Hid (CW b=false):=Fi (by rw [hund.out];unfold Fb;rw [hstep.out,hj];rfl);clear hj;exact BH
   have HJ:=lH hj;clear hj;(go_wp2_with fail);refine (A09 _ _ j _ VT).mono ?_;rintro e w1 ⟨rfl,rfl⟩
   cases hi:EU (KK.take k) j with
   | true =>
    have hno:Hid (CW b=false):=Fi (by rw [hund.out];unfold Fb;rw [hstep.out,HJ.out,hi];rfl);exact q8
   | false =>
    exact oY
  |cases hj:Gh j
   ·have hno:Hid (Bv b=false):=(by unfold Hid;rw [hund.out];unfold Fb;rw [hstep.out,hj];rfl);have hjr:¬ (1≤j∧j≤1000000):=of_decide_eq_false hj;clear hj;by_cases hj1:j<1
    ·have e1:decide (j<1)=true:=decide_eq_true hj1;exact BH
    have e1:decide (j<1)=false:=decide_eq_false hj1;have e2:decide (1000000<j)=true:=decide_eq_true oM;exact BH
   have HJ:=lH hj;have hjr:1≤j∧j≤1000000:=of_decide_eq_true hj;have e1:decide (j<1)=false:=decide_eq_false oM;have e2:decide (1000000<j)=false:=decide_eq_false oM;clear hj hjr;(go_wp2_with fail);refine (Wy _ _ j _ VT).mono ?_;rintro e w1 ⟨rfl,rfl⟩
   cases hi:EU (KK.take k) j with
   | true =>
    have hno:Hid (Bv b=false):=(by unfold Hid;rw [hund.out];unfold Fb;rw [hstep.out,HJ.out,hi];rfl);exact q8
   | false =>
    exact oY
 |clear B1S
  refine ⟨_,_,_,rfl,AA,hnil,by rw [List.length_take];have:=F.1;omega,by have:=F.2.1;omega,fun y hy=>F.2.2.1 y (List.mem_of_mem_take hy),fun i y hy=>F.2.2.2 i y ?_⟩;have hi:i<k:=A5O;rwa [List.getElem?_take_of_lt hi] at hy
 |clear B1y
  obtain ⟨g3,o3,x3,rfl,-,-,-,-⟩:=BtF.cell F (k:=7) oM;have cv1:=Kf O3.vs
  first
  |clear A7w
   have V3:=V1.keepB b3 oM
   first
   |clear B1W
    have cv2:=Kf V3;have B72:=trivial;exact jr
   |have cv2:=A1v V3;exact jr
  |first
   |clear B7M
    have V3:=V2.keepB b3 oM;have cv2:=Kf V3;have P3:=P1.keep b3;have Q3:=P2.keep b3;exact kW
   |first
    |clear B73
     have V3:=V2.keep b3;have B74:=trivial;exact kV
    |have V3:=V2.keepB b3 oM;exact kV
 |clear B4K
  obtain ⟨g,off,x,e,hg,hc,hok,hx,ht⟩:=FS.at_ F hk
  first
  |clear A3L
   exact ⟨g,off,x,e,hg,hok,⟨hc 0 _ rfl,hc 1 _ rfl,hc 2 _ rfl,hc 3 _ rfl,hc 4 _ rfl⟩,hx,ht⟩
  |clear A30
   exact ⟨g,off,x,e,hg,hok,⟨hc 0 _ rfl,hc 1 _ rfl,hc 2 _ rfl⟩,hx,ht⟩
  |exact ⟨g,off,x,e,hg,hok,⟨hc 0 _ rfl,hc 1 _ rfl,hc 2 _ rfl,hc 3 _ rfl,hc 4 _ rfl,hc 5 _ rfl,hc 6 _ rfl⟩,hx,ht⟩
 |clear B60
  first
  |clear A7B
   obtain ⟨b,off,x,u,rfl,hb,hxo,hu,hc,hx,ht⟩:=hat k2 hlt2;obtain ⟨ua,um,uc,rfl,hum,-⟩:=hu.form;have hum:x.bytes.length=um:=hum;have hxo:AE x.at_:=hxo;unfold AE at hxo;have c0:wr.cell? ⟨b,off+k2*2,none⟩=.some x.at_:=hc 0 _ rfl;have c1:wr.cell? ⟨b,off+k2*2+1,none⟩=some (.slice ua um uc):=hc 1 _ rfl;clear hat hc hu;have PA:=P.alloc (.cells #[x.at_, .slice ua um uc] 169);have BA:=Ae hB (.cells #[x.at_, .slice ua um uc] 169);by_cases hg:(0≤x.at_∧x.at_<(n:Int))∧um=128
   ·have hgo:Hid ((d.dirty.take (k2+1)).all (IA d.cells.length)=true):=K0 ht.out hallw.out A5G;clear hx ht hum;obtain ⟨⟨hg1,hg2⟩,rfl⟩:=hg;go_wp2;go_roundw
    case rel=>exact ⟨k2+1,AA,Ab,hgo,BA,PA⟩
    case measure=>simp only [intOf];omega
   have hno:Hid (BO d=false):=A5H;clear hx ht hum;rcases (show x.at_<0∨(0≤x.at_∧(n:Int)≤x.at_)∨((0≤x.at_∧x.at_<(n:Int))∧¬ um=128) by omega) with hg1 | ⟨hg1,hg2⟩ | ⟨⟨hg1,hg2⟩,hg3⟩
   all_goals
    clear hg
    try have e2:((um:Int) != 128)=true:=An
    go_wp2
    go_ret
    exact ⟨Ag If,BA⟩
  |obtain ⟨b,off,x,u,rfl,hb,hxo,hu,hc,hx,ht⟩:=hat j oM;have hbq:=Nat.lt_of_lt_of_le hb hB.size;have hPl:=P0.lt;have hxo:AE x.at_:=hxo;unfold AE at hxo;have hU:Ar wq wq u x.bytes:=VS.mono hu hB.size;have c0:wq.cell? ⟨b,off+j*2,none⟩=.some x.at_:=hc 0 _ rfl;have c1:wq.cell? ⟨b,off+j*2+1,none⟩=some u:=hc 1 _ rfl;have hxb:x.bytes.length≤128:=Nat.le_of_eq (HK5.out x (List.mem_of_getElem? hx.out)).1;obtain ⟨ua,um,uc,rfl,-,-⟩:=VS.form hu
   first
   |clear A99
    by_cases hat2:x.at_=(i:Int)
    ·have B75:=trivial;exact rA
    exact m8
   |by_cases hat2:x.at_=(i:Int);rotate_left
    ·exact m8
    exact rA
 |clear B61
  first
  |clear A7S
   obtain ⟨b,off,x,u,rfl,hb,-,hu,hc,hx,ht⟩:=hat k hlt;obtain ⟨ua,um,uc,rfl,hum,-⟩:=hu.form;have hum:x.length=um:=hum
   have c0:wr.cell? ⟨b,off+k,none⟩=some (.slice ua um uc):=by
    (have:=hc 0 _ rfl);rw [show off+k*Bm.sz+0=off+k from by show off+k*1+0=_;omega] at this;exact this
   have hbx:b<wr.heap.size:=Nat.lt_of_lt_of_le hb hB.size;clear hat hc hu;by_cases hg:um=0∨um=128
   ·have hgo:Hid ((d.cells.take (k+1)).all Ga=true):=K0 ht.out hall.out (by unfold Ga;rw [hum];exact decide_eq_true hg);clear hx ht hum;have PA:=P.alloc (.cells #[.slice ua um uc] 167);have BA:=Ae hB (.cells #[.slice ua um uc] 167);rcases hg with rfl | rfl
    all_goals
     go_wp2
     go_roundw
     case rel=>exact ⟨k+1,AA,Ab,hgo,BA,PA⟩
     case measure=>simp only [intOf];omega
   have hno:Hid (BO d=false):=A5E;have hg1:¬ um=0:=fun e=>hg (.inl e);have hg2:¬ um=128:=fun e=>hg (.inr e);have e1:((um:Int) != 0)=true:=An;have e2:((um:Int) != 128)=true:=An;have e3:((um:Int) == 0)=false:=An;have e4:((um:Int) == 128)=false:=An;clear hx ht hum hg;exact BH
  |obtain ⟨b,off,x,u,rfl,hb,-,hu,hc,hx,ht⟩:=hat i hi;have hU:Ar wq wq u x:=VS.mono hu hB.size
   have c0:wq.cell? ⟨b,off+i,none⟩=some u:=by
    (have:=hc 0 _ rfl);rw [show off+i*Bm.sz+0=off+i from by show off+i*1+0=_;omega] at this;exact this
   have hx128:=HK4.out x (List.mem_of_getElem? hx.out)
   have hend:Hid (DG d i=GH x):=by
    unfold Hid;rw [hrd.out];unfold Fd;rw [hx.out];rfl
   obtain ⟨ua,um,uc,rfl,-,-⟩:=VS.form hu;clear hat hc hu hx ht;go_wp2_with fail
   first
   |clear A98
    refine (yw _ x _ hU oM).mono ?_;exact UG
   |refine (wH _ x _ hU oM).mono ?_;have B76:=trivial;exact UG
 |obtain ⟨g,off,x,u,rfl,hg,hxo,hu,hc,hx,ht⟩:=hat k hlt
  first
  |clear B77
   obtain ⟨sq,ep,bd⟩:=x;have c0:wr.cell? ⟨g,off+k*3,none⟩=.some sq:=hc 0 _ rfl;have c1:wr.cell? ⟨g,off+k*3+1,none⟩=.some ep:=hc 1 _ rfl;have c2:wr.cell? ⟨g,off+k*3+2,none⟩=some u:=hc 2 _ rfl;have hbl:=HR.out _ (List.mem_of_getElem? hx.out);have hgo:=lH (tU ht.out);have hU:Ar wr wr u bd:=hu;obtain ⟨ua,un,uc,rfl,hul,-⟩:=VS.form hU;have HUL:=lH hul;have hbl2:bd.length≤100:=hbl;clear hat hc hu hx ht hxo hbl hul;(go_upto_region 6 with fail);refine cW fun w5 P5 b5 => ?_;have q2:=P5.cell 2 _ rfl;have ho5:=ho.keep b5;have hB5:=AD b5 hB;have hR5:=hR.keep b5
   first
   |clear A8A
    have CB:=A06 _ bd w5 (hU.keep b5) oM;exact gl
   |have CB:=A1H _ bd w5 (hU.keep b5) oM;exact gl
  |have c0:wr.cell? ⟨g,off+k*2,none⟩=.some x.id:=hc 0 _ rfl;have c1:wr.cell? ⟨g,off+k*2+1,none⟩=some u:=hc 1 _ rfl;have hgo:=lH (vg ht.out);have hU:VS Ln.enc 3 Ln.ok wr wr u x.lines:=hu;obtain ⟨ua,un,uc,rfl,hul,-⟩:=VS.form hU;have hxid:AE x.id:=hxo;have HX:=lH hxid;clear hat hc hu hx ht hxo hul hxid;(go_upto_region 8 with fail);refine cW fun w5 P5 b5 => ?_;obtain ⟨p0,p1⟩:=P5.c2;have Q5:=Q.keep b5;have O5:=O.keep b5;obtain ⟨q0,q1⟩:=Q5.c2;(have zz:w.heap.size+1+1≤w4.heap.size:=by have:=R4.lt;omega);have hB5:Below (w.heap.size+1+1) w4 w5:=hB.trans (b5.mono (by have:=hB.size;omega))
   first
   |clear B1j
    have CP:=A2J L x _ _ w5 O5.vw (hU.keep b5) HX.out;exact fT
   |have CP:=xf L x _ _ w5 O5.vw (hU.keep b5) HX.out;exact fT):p:=h
theorem RC(h:p:=by
 have B78:=trivial;exact RD):p:=h
theorem GN(h:p:=by
 rintro e w2 ⟨rfl,rfl⟩;have B79:=trivial;exact Dm):p:=h
theorem Jb(h:p:=by
 obtain ⟨ue,hue⟩:∃ u,u=w.heap.size:=⟨_,rfl⟩;rw [← hue] at PE;have nE:=H.fresh;rw [← hue] at nE
 first
 |clear B8A
  first
  |clear A4h
   (go_enter Tryz.func176,Tryz.ntmps176);have B8B:=trivial;exact rB
  |(go_enter Tryz.func179,Tryz.ntmps179);exact rB
 |clear B8C
  first
  |clear B0T
   (go_enter Tryz.func173,Tryz.ntmps173);have B5N:=trivial;exact mO
  |(go_enter Tryz.func153,Tryz.ntmps153);exact mO
 |clear B8D
  first
  |clear A4n
   (go_enter Tryz.func172,Tryz.ntmps172);have B5P:=trivial;exact mP
  |(go_enter Tryz.func152,Tryz.ntmps152);exact mP
 |clear B3B
  go_enter Tryz.func179,Tryz.ntmps179
  go_upto_region 1 with fail
  rw [← hue]
  first
  |clear B8E
   generalize w.alloc (.cells #[.int .i64 10,ky,ch,tt,am,fe,ys] 73)=w0 at PE b0 ⊢;have B5L:=trivial;exact kN
  |generalize w.alloc (.cells #[.int .i64 11,ky,ch,tt,am,fe,ys] 73)=w0 at PE b0 ⊢;exact kN
 |clear B3C
  go_enter Tryz.func176,Tryz.ntmps176
  go_upto_region 1 with fail
  rw [← hue]
  first
  |clear B8F
   generalize w.alloc (.cells #[.int .i64 6,ky,ch,tt,am,fe,ys] 73)=w0 at PE b0 ⊢;have B5M:=trivial;exact kP
  |generalize w.alloc (.cells #[.int .i64 7,ky,ch,tt,am,fe,ys] 73)=w0 at PE b0 ⊢;exact kP
 |clear B4S
  first
  |clear B8G
   (go_enter Tryz.func178,Tryz.ntmps178);have B8H:=trivial;exact rC
  |(go_enter Tryz.func157,Tryz.ntmps157);exact rC
 |first
  |clear B8I
   (go_enter Tryz.func175,Tryz.ntmps175);have B8J:=trivial;exact rD
  |(go_enter Tryz.func154,Tryz.ntmps154);exact rD):p:=h
theorem KX(h:p:=by
 have B8K:=trivial;exact FY):p:=h
theorem RA(h:p:=by
 go_enter Tryz.func302,Tryz.ntmps302
 go_wp2_with (((first | (go_at_call 233;refine (BP _ _).mono ?_) | (go_at_call 315;refine (M4 _ _ _ _ oM oM oM).mono ?_) | (go_at_call 150;refine (J4 _ _ _).mono ?_));rintro e w1 ⟨rfl,rfl⟩))
 go_ret2;exact ⟨LT,rfl⟩):p:=h
theorem Gv(h:p:=by
 unfold Hid;rw [← HP.out];intro e;obtain ⟨-,-,e⟩:=e
 first
 |clear A82
  exact hd (congrArg Bk.tick e)
 |clear A83
  exact hd (congrArg Bk.next e)
 |clear A84
  exact hd (congrArg Bk.wallet e)
 |clear A85
  exact hd (by have h1:=HN1.out;have h2:=HN2.out;(try dsimp only at h1 h2);rw [← h1,← h2,show cs1=cs2 from congrArg Bk.chans e])
 |clear A86
  exact hd (by have h1:=HM1.out;have h2:=HM2.out;(try dsimp only at h1 h2);rw [← h1,← h2,show hs1=hs2 from congrArg Bk.htlcs e])
 |clear A87
  exact hd (by have h1:=HQ1.out;have h2:=HQ2.out;(try dsimp only at h1 h2);rw [← h1,← h2,show zs1=zs2 from congrArg Bk.circles e])
 |clear B3b
  exact hne.out (congrArg Bk.chans e)
 |clear B3X
  exact hne.out (congrArg Bk.htlcs e)
 |exact hne.out (congrArg Bk.circles e)):p:=h
theorem Jc(h:p:=by
 go_quiet (fail)
 go_wp2;go_ret;exact ⟨KO,C8 BZ⟩):p:=h
theorem T8(h:p:=by
 go_wp2;go_roundw
 case rel=>exact ⟨k+1,AA,Ab,hgo,bW⟩
 case measure=>simp only [intOf];omega):p:=h
theorem Ja(h:p:=by
 have B8L:=trivial;exact MC):p:=h
theorem MA(h:p:=by
 have T1:=T1.keep W6;have T2:=T2.keep W6;have B8M:=trivial;exact MG):p:=h
theorem Gx(h:p:=by
 unfold Hid;rw [← HP.out];intro e
 skip
 first
 |clear B3c
  exact hd (congrArg Bk.tick e)
 |clear B3d
  exact hd (congrArg Bk.next e)
 |clear B3e
  exact hd (congrArg Bk.wallet e)
 |clear B3f
  exact hd (by have h1:=HN1.out;have h2:=HN2.out;dsimp only at h1 h2;rw [← h1,← h2,show cs1=cs2 from congrArg Bk.chans e])
 |clear B3g
  exact hd (by have h1:=HM1.out;have h2:=HM2.out;dsimp only at h1 h2;rw [← h1,← h2,show hs1=hs2 from congrArg Bk.htlcs e])
 |clear B3h
  exact hd (by have h1:=HQ1.out;have h2:=HQ2.out;dsimp only at h1 h2;rw [← h1,← h2,show zs1=zs2 from congrArg Bk.circles e])
 |clear B3a
  exact hne.out (congrArg Bk.chans e)
 |clear B3W
  exact hne.out (congrArg Bk.htlcs e)
 |exact hne.out (congrArg Bk.circles e)):p:=h
theorem Oz(h:p:=by
 replace hT:=hTx;replace hs:X0.heap.size≤X1.heap.size:=Gr;replace ho1:=ho1.kept exx (Eb ho1.lt oM);clear hTx exx hZ
 first
 |clear B8N
  have p:=hT.p.cell 2 _ rfl;have o:=hT.o.cell 2 _ rfl;have q:=hT.o.fz 2 AF;go_upto_region 4 with fail
  clear p o q;have hTx:T3 w (X1.setCell ⟨(w.heap.size+1+1),2,none⟩ l.next) _ _ _ _ _ _∧Ex [(w.heap.size+1+1)] X1 (X1.setCell ⟨(w.heap.size+1+1),2,none⟩ l.next)∧(X1.setCell ⟨(w.heap.size+1+1),2,none⟩ l.next).heap.size=X1.heap.size:=hT.putO 2 [(.int .i64 l.next)] oM oM oM AF;generalize X1.setCell ⟨(w.heap.size+1+1),2,none⟩ l.next=X2 at hTx ⊢;obtain ⟨hTx,exx,hZ⟩:=hTx;exact ph
 |clear B8O
  go_wp2_with ((show Go.wpList _ _ _ ((Go.Oper.mk _ (Go.Op.load 32 _) _ _ _ _) :: _) _ _);refine Ce A2I A0P rfl _ rfl _ _ rfl _ (hT.p.range 4 [h.book.tick,h.book.next,h.book.wallet,x,y,z] rfl) rfl ?_)
  refine (xi _ _ _ h.book X1 (V.book.keep hT.b) hB.2.1).mono ?_;rintro e w2 ⟨⟨F2,u0,u1,u2,rfl,ho2⟩,hb⟩;exact nU
 |clear B8P
  go_wp2_with ((show Go.wpList _ _ _ ((Go.Oper.mk _ (Go.Op.load 25 _) _ _ _ _) :: _) _ _);refine Ce Vf XK rfl _ rfl _ _ rfl _ (hT.p.range 15 [c2,d2] rfl) rfl ?_)
  refine (YG _ _ W.disk X1 (V.disk.keep hT.b) hB.2.1).mono ?_;rintro e w2 ⟨⟨F2,u0,u1,rfl,ho2⟩,hb⟩;have B8Q:=trivial;exact nU
 |first
  |clear B8R
   have p:=hT.p.cell 1 _ rfl;(go_wp2_with fail);refine (yD _ d.dirty X1 (V.dirty.keep hT.b) hB.2.1 hB.2.2).mono ?_;have B8S:=trivial;exact kz
  |clear B8T
   have p:=hT.p.cell 4 _ rfl;(go_wp2_with fail);refine (vW _ b.htlcs X1 (V.htlcs.keep hT.b) hB.2.1).mono ?_;exact kz
  |have hO:Bx X1 (w.heap.size+1+1) [l.last,(.slice a10 n10 k10)]:=hT.o
   go_wp2_with (first
    | ((show Go.wpList _ _ _ ((Go.Oper.mk _ (Go.Op.load 57 _) _ _ _ _) :: _) _ _);refine Ce YW Mi rfl _ rfl _ _ rfl _ hO.rng rfl ?_)
    | ((show Go.wpList _ _ _ ((Go.Oper.mk _ (Go.Op.store 57 _ _) _ _ _ _) :: _) _ _);refine Jj hT oM oM oM Mi rfl _ _ rfl rfl rfl AF rfl rfl fun XF hTx exx hZ => ?_))
   have B8U:=trivial;exact UH):p:=h
theorem Ll(h:p:=by
 refine AllReadyH.cons rfl (fun K hK => ?_) AllReadyH.nil;exact FV):p:=h
theorem TG(h:p:=by
 obtain ⟨y,z,l,P,V,-⟩:=H.cells;exact SW):p:=h
theorem ME(h:p:=by
 have B8V:=trivial;exact Ka):p:=h
theorem Lu(h:p:=by
 rintro e w9 ⟨rfl,F9,H9,W9⟩;have B8W:=trivial;exact KV):p:=h
theorem rE(h:p:=by
 have hcmp:(S1.toList == S2.toList)=true:=dP
 have hres:Hid (Ca xs=some ⟨sq,ep,bd⟩):=by
  unfold Hid;have h1:=A0y H128.out Nm (by rw [HS.out];exact HOK.out) dN;rw [HS.out] at h1;exact h1
 clear P1 P2 P3 Q3 V2 V3 O2 O3 F p0 p1 p2 C3 hSB hSl hS1 hS2 heq Vb b3 hnc;go_wp2
 first
 |clear B8X
  refine bodyPost_ret Rx rfl ?_;refine ⟨.inl ⟨_,_,hres.out,rfl,?_⟩,?_⟩
  ·refine AC.le (AC.kept (F := [w]) O4 (LB) (fun k hk hm => ?_)) B0.size;(have:=(AC.blk O4 k hk).1);simp at hm;omega
  exact bW
 |refine bodyPost_ret dQ rfl ?_;refine ⟨.inl ⟨_,_,hres.out,rfl,?_⟩,bW⟩;refine AC.le (AC.kept (F := [w]) O4 (LB) (fun k hk hm => ?_)) oM;have:=(AC.blk O4 k hk).1
  simp at hm;omega):p:=h
theorem Lv(h:p:=by
 rintro e w9 ⟨rfl,H9,W9⟩;exact KV):p:=h
theorem rF(h:p:=by
 go_upto_region 1 with fail
 have Q1:=bN w [b.tick,b.next,b.wallet, .slice ax n cx, .slice ay m cy, .slice az q cz] 54;have b1:=bA w [b.tick,b.next,b.wallet, .slice ax n cx, .slice ay m cy, .slice az q cz] 54;have hz1:=bZ w [b.tick,b.next,b.wallet, .slice ax n cx, .slice ay m cy, .slice az q cz] 54
 first
 |clear B8Y
  have A66:=trivial;exact KP
 |first
  |clear A4w
   have B8Z:=trivial;exact KP
  |clear A4x
   have B8a:=trivial;exact KP
  |first
   |clear A44
    have B8b:=trivial;exact KP
   |clear A45
    have B8c:=trivial;exact KP
   |exact KP):p:=h
theorem PK(h:p:=by
 go_upto_region 1 with fail
 generalize w.alloc (.cells #[.slice a0 n cp0, .slice a1 m cp1] 47)=X0 at P0 B0 ⊢;obtain ⟨p0,p1⟩:=P0.c2;go_wp2
 first
 |clear B8d
  go_loopw [4,21] (fun _ i wr=>∃ k:Nat,k≤n∧i=k∧Hid ((d.cells.take k).all Ga=true)∧Below w w wr∧Bx wr w [.slice a0 n cp0, .slice a1 m cp1]) (fun _ i _=>n - (intOf i).toNat)
  case atStart=>exact ⟨0,Nat.zero_le _,rfl,rfl,B0,P0⟩
  case round =>
   have B0b:=trivial;exact lG
 |clear B8e
  go_loopw [4,26] (fun _ i wr=>∃ k:Nat,k≤n∧i=k∧Hid ((d.cells.take k).all Ga=true)∧Below w w wr∧Bx wr w [.slice a0 n cp0, .slice a1 m cp1]) (fun _ i _=>n - (intOf i).toNat)
  case atStart=>exact ⟨0,Nat.zero_le _,rfl,rfl,B0,P0⟩
  case round =>
   exact lG
 |go_ret;exact ⟨Ag JL,bW⟩):p:=h
theorem UC(h:p:=by
 have PH:=PH.keep bb;have V0:=V0.keep bb;have BX:=Below.trans BX (Below.mono bb BX.size);clear h0 h1 h2 h3 h4 h5 h6 h7 h8 h9 h10 h11 h12 h13
 first
 |clear B8f
  clear bb hub;have B8g:=trivial;exact KU
 |clear B6Y
  cases hd:Fj h.log.disk
  first
  |clear B8h
   ·exact rG
   have HD:=lH hd;have B8i:=trivial;exact UI
  |·have B8j:=trivial;exact rG
   have HD:=lH hd;have B8k:=trivial;exact UI
 |first
  |clear B8l
   cases r with
   | false =>
    exact qN
   | true =>
    have HL:=lH (hr.1 rfl);clear hr;have B8m:=trivial;exact KU
  |cases r with
   | false =>
    exact qN
   | true =>
    have HB:=lH (hr.1 rfl);clear hr;have B8n:=trivial;exact KU):p:=h
theorem rH(h:p:=by
 have hr:Hid (Fj d=decide (m=0)):=by
  unfold Hid Fj;rw [decide_eq_true (List.length_eq_zero_iff.1 oM),Bool.true_and];exact dd ⟨fun h=>by rw [h] at hm;simpa using hm.symm,fun h=>List.length_eq_zero_iff.1 oM⟩
 subst h1;clear hn hm hnm hmm hn1 hm1;by_cases h2:m=0
 first
 |clear B8o
  ·subst h2;(go_enter Tryz.func53,Tryz.ntmps53);exact oy
  have B8p:=trivial;exact rI
 |·subst h2;(go_enter Tryz.func44,Tryz.ntmps44);exact oy
  exact rI):p:=h
theorem RL(h:p:=by
 obtain ⟨i,hi⟩:=Option.isSome_iff_exists.1 h1;have h2:=hi;rw [List.findIdx?_eq_some_iff_getElem] at h2;obtain ⟨hlt,hp,hbef⟩:=h2
 first
 |clear A3M
  have hall:(l.take i).all (fun y => !decide (y.id=ch))=true:=by
   exact Ta
  have hx:l[i]? = some l[i]:=List.getElem?_eq_getElem hlt;have hid:l[i].id=ch:=of_decide_eq_true hp;have hf:=(IV (p:=fun y:Cn=>decide (y.id=ch)) hall hx hp).1;refine ⟨i,l[i],?_,hx,hid,?_,hlt⟩
  ·exact Vz hall hx hid
  unfold AM;rw [hf];rfl
 |clear A4H
  have hall:(b.htlcs.take i).all (fun y => !decide (y.key=key))=true:=by
   exact Ta
  have hx:b.htlcs[i]? = some b.htlcs[i]:=List.getElem?_eq_getElem hlt;have hid:b.htlcs[i].key=key:=of_decide_eq_true hp;have hf:=(IV (p:=fun y:Ht=>decide (y.key=key)) hall hx hp).1;refine ⟨i,b.htlcs[i],?_,hx,hid,?_,hlt⟩
  ·exact Vc hall hx hid
  unfold Ac;rw [hf];rfl
 |have hall:(b.circles.take i).all (fun y => !decide (y.key=key))=true:=by
   exact Ta
  have hx:b.circles[i]? = some b.circles[i]:=List.getElem?_eq_getElem hlt;have hid:b.circles[i].key=key:=of_decide_eq_true hp;have hf:=(IV (p:=fun y:Ci=>decide (y.key=key)) hall hx hp).1;refine ⟨i,b.circles[i],?_,hx,hid,?_,hlt⟩
  ·exact YF hall hx hid
  unfold AW;rw [hf];rfl):p:=h
theorem L9(h:p:=by
 clear hT0;exact BH):p:=h
theorem Na(h:p:=by
 obtain ⟨a,len,cap,hv,hcap,hnil,hs⟩:=id V0;subst hv;have hl:=hs.lenB;have hln:=hs.1
 first
 |clear A22
  cases hL:DV xs<;>(
   go_enter Tryz.func184,Tryz.ntmps184
   go_wp2_with (((first | (go_at_call 124;refine (Cy _ _ _ _).mono ?_) | (go_at_call 232;refine (Uk _ _ _ Nj).mono ?_));(first | (rintro e w1 ⟨rfl,rfl⟩) | (rintro e w1 ⟨rfl,hb⟩;(try (replace H0:=A7 H0 hb bS;clear hc0 hf0 hs0 hz0;obtain ⟨hc0,hf0,hs0,hz0⟩:=AS H0));(try (replace H1:=A7 H1 hb bS;clear hc1 hf1 hs1 hz1;obtain ⟨hc1,hf1,hs1,hz1⟩:=AS H1));(try (replace H2:=A7 H2 hb bS;clear hc2 hf2 hs2 hz2;obtain ⟨hc2,hf2,hs2,hz2⟩:=AS H2));(try replace S0:=S0.keep (AD hb bS));(try replace S1:=S1.keep (AD hb bS));(try replace S2:=S2.keep (AD hb bS));(try replace S3:=S3.keep (AD hb bS));(first | ((fail_if_success (have ht:=H0));have H0:=hb;obtain ⟨hc0,hf0,hs0,hz0⟩:=AS H0) | ((fail_if_success (have ht:=H1));have H1:=hb;obtain ⟨hc1,hf1,hs1,hz1⟩:=AS H1) | ((fail_if_success (have ht:=H2));have H2:=hb;obtain ⟨hc2,hf2,hs2,hz2⟩:=AS H2) | skip)))))
   all_goals
    go_ret
    refine ⟨Ag ?_,bW⟩
    (try simp only [Bq,Dz,hL,hln,AH,Ad,Bool.and_false,Bool.and_true,decide_eq_true_eq,decide_eq_false_iff_not,Bool.and_eq_true] at *)<;>first | rfl | exact tt oM | exact ff oM | (rw [Bool.eq_iff_iff];simp only [Bool.and_eq_true,decide_eq_true_eq]<;>omega) | (simp<;>omega) | (simp_all<;>omega))
 |clear A23
  cases hL:DV xs<;>(
   go_enter Tryz.func134,Tryz.ntmps134
   go_wp2_with (((first | (go_at_call 231;refine (Az _ _).mono ?_) | (go_at_call 232;refine (Uk _ _ _ Nj).mono ?_));(first | (rintro e w1 ⟨rfl,rfl⟩) | (rintro e w1 ⟨rfl,hb⟩;(try (replace H0:=A7 H0 hb bS;clear hc0 hf0 hs0 hz0;obtain ⟨hc0,hf0,hs0,hz0⟩:=AS H0));(try (replace H1:=A7 H1 hb bS;clear hc1 hf1 hs1 hz1;obtain ⟨hc1,hf1,hs1,hz1⟩:=AS H1));(try (replace H2:=A7 H2 hb bS;clear hc2 hf2 hs2 hz2;obtain ⟨hc2,hf2,hs2,hz2⟩:=AS H2));(try replace S0:=S0.keep (AD hb bS));(try replace S1:=S1.keep (AD hb bS));(try replace S2:=S2.keep (AD hb bS));(try replace S3:=S3.keep (AD hb bS));(first | ((fail_if_success (have ht:=H0));have H0:=hb;obtain ⟨hc0,hf0,hs0,hz0⟩:=AS H0) | ((fail_if_success (have ht:=H1));have H1:=hb;obtain ⟨hc1,hf1,hs1,hz1⟩:=AS H1) | ((fail_if_success (have ht:=H2));have H2:=hb;obtain ⟨hc2,hf2,hs2,hz2⟩:=AS H2) | skip)))))
   all_goals
    go_ret
    refine ⟨Ag ?_,bW⟩
    (try simp only [Bq,Dz,hL,hln,AH,Ad,Bool.and_false,Bool.and_true,decide_eq_true_eq,decide_eq_false_iff_not,Bool.and_eq_true] at *)<;>first | rfl | exact tt oM | exact ff oM | (rw [Bool.eq_iff_iff];simp only [Bool.and_eq_true,decide_eq_true_eq]<;>omega) | (simp<;>omega) | (simp_all<;>omega))
 |clear A24
  cases hL:DV xs<;>(
   go_enter Tryz.func163,Tryz.ntmps163
   go_wp2_with (((go_at_call 230;refine (XJ _ _ _ Nj).mono ?_);(rintro e w1 ⟨rfl,hb⟩;(try (replace H0:=A7 H0 hb bS;clear hc0 hf0 hs0 hz0;obtain ⟨hc0,hf0,hs0,hz0⟩:=AS H0));(try (replace H1:=A7 H1 hb bS;clear hc1 hf1 hs1 hz1;obtain ⟨hc1,hf1,hs1,hz1⟩:=AS H1));(try (replace H2:=A7 H2 hb bS;clear hc2 hf2 hs2 hz2;obtain ⟨hc2,hf2,hs2,hz2⟩:=AS H2));(try replace S0:=S0.keep (AD hb bS));(try replace S1:=S1.keep (AD hb bS));(try replace S2:=S2.keep (AD hb bS));(try replace S3:=S3.keep (AD hb bS));(first | ((fail_if_success (have ht:=H0));have H0:=hb;obtain ⟨hc0,hf0,hs0,hz0⟩:=AS H0) | ((fail_if_success (have ht:=H1));have H1:=hb;obtain ⟨hc1,hf1,hs1,hz1⟩:=AS H1) | ((fail_if_success (have ht:=H2));have H2:=hb;obtain ⟨hc2,hf2,hs2,hz2⟩:=AS H2) | skip))))
   all_goals
    go_ret
    refine ⟨Ag ?_,bW⟩
    (try simp only [Bq,Dz,hL,hln,AH,Ad,Bool.and_false,Bool.and_true,decide_eq_true_eq,decide_eq_false_iff_not,Bool.and_eq_true] at *)<;>first | rfl | exact tt oM | exact ff oM | (rw [Bool.eq_iff_iff];simp only [Bool.and_eq_true,decide_eq_true_eq]<;>omega) | (simp<;>omega) | (simp_all<;>omega))
 |cases hL:DV xs<;>(
   go_enter Tryz.func132,Tryz.ntmps132
   go_wp2_with (((go_at_call 230;refine (XJ _ _ _ Nj).mono ?_);(rintro e w1 ⟨rfl,hb⟩;(try (replace H0:=A7 H0 hb bS;clear hc0 hf0 hs0 hz0;obtain ⟨hc0,hf0,hs0,hz0⟩:=AS H0));(try (replace H1:=A7 H1 hb bS;clear hc1 hf1 hs1 hz1;obtain ⟨hc1,hf1,hs1,hz1⟩:=AS H1));(try (replace H2:=A7 H2 hb bS;clear hc2 hf2 hs2 hz2;obtain ⟨hc2,hf2,hs2,hz2⟩:=AS H2));(try replace S0:=S0.keep (AD hb bS));(try replace S1:=S1.keep (AD hb bS));(try replace S2:=S2.keep (AD hb bS));(try replace S3:=S3.keep (AD hb bS));(first | ((fail_if_success (have ht:=H0));have H0:=hb;obtain ⟨hc0,hf0,hs0,hz0⟩:=AS H0) | ((fail_if_success (have ht:=H1));have H1:=hb;obtain ⟨hc1,hf1,hs1,hz1⟩:=AS H1) | ((fail_if_success (have ht:=H2));have H2:=hb;obtain ⟨hc2,hf2,hs2,hz2⟩:=AS H2) | skip))))
   all_goals
    go_ret
    refine ⟨Ag ?_,bW⟩
    (try simp only [Bq,Dz,hL,hln,AH,Ad,Bool.and_false,Bool.and_true,decide_eq_true_eq,decide_eq_false_iff_not,Bool.and_eq_true] at *)<;>first | rfl | exact tt oM | exact ff oM | (rw [Bool.eq_iff_iff];simp only [Bool.and_eq_true,decide_eq_true_eq]<;>omega) | (simp<;>omega) | (simp_all<;>omega))):p:=h
theorem MB(h:p:=by
 go_upto_region 6 with fail
 go_quiet (fail)
 go_wp2;go_ret
 first
 |clear B5B
  first
  |clear B5W
   exact ⟨⟨false,rfl,KH⟩,C8 hB⟩
  |exact rJ
 |clear B5F
  exact rK
 |clear B5H
  exact ⟨⟨false,rfl,KH⟩,C8 hB⟩
 |exact rJ):p:=h
theorem pX(h:p:=by
 go_quiet (fail)
 exact Dx):p:=h
theorem kS(h:p:=by
 have hbb:Hid (∀ y∈b,-2305843009213693952≤y.amt∧y.amt≤2305843009213693952):=fun y hy=>hbb1.out y (List.mem_cons_of_mem _ hy);have hba:=hba1;simp only [List.length_cons,List.length_nil] at hlen;clear hgo0 hgk0 hna hnb hba1 hbb1
 first
 |clear A9z
  have LES:=fun w=>Jq xk xc yk yc w;simp only [hl1] at LES;have LEY:=fun w=>Jq yk yc xk xc w;simp only [hl2] at LEY;have HL1:=lH hl1;have HL2:=lH hl2;clear hl1 hl2;have B6k:=trivial;exact Sk
 |go_upto_region 9 with fail
  have B6p:=trivial;exact iX):p:=h
theorem Ni(h:p:=by
 have hl:=h.lt;have hcut:=h;exact Nh):p:=h
theorem RJ(h:p:=by
 go_wp2;go_round
 case rel=>exact ⟨j+1,AA,Ab,by rw [hnx.out];go_num⟩
 case measure=>simp only [intOf];omega):p:=h
theorem Oj(h:p:=by
 have c1:=PE.cell 1 _ rfl;have c2:=PE.cell 2 _ rfl;exact Kb):p:=h
theorem pT(h:p:=by
 have e1:decide (p.id≤l.last)=true:=decide_eq_true hle;obtain ⟨r0,r1⟩:=RX.c2;obtain ⟨z0,z1⟩:=RX.z2
 have hres:Hid (BV l p=(2,Lg.zero)):=by
  unfold Hid BV;rw [HL.out,HP.out,Bool.true_and,if_neg sM,if_pos hle]
 first
 |clear B48
  exact Ob
 |exact Tl):p:=h
theorem UH(h:p:=by
 clear hO;replace hT:=hTx;replace hs:X0.heap.size≤XF.heap.size:=Gr;replace ho1:=ho1.kept exx (Eb ho1.lt oM)
 first
 |clear B8U
  clear hTx exx hZ;have hR:Bx XF (w.heap.size+1) [l.last,(.slice a10 n10 k10)]:=hT.r;have hL:=Iq YW Mi hR rfl;refine bodyPost_ret (v := .agg #[l.last,(.slice a10 n10 k10)]) (by simp only [results,Tryz.results80];simp [Act.put,hL,asAddr]) rfl ?_;have B8q:=trivial;exact PL
 |replace ho2:=ho2.kept exx (Eb ho2.lt oM)
  first
  |clear B8r
   replace ho3:=ho3.kept exx (Eb ho3.lt oM);clear hTx exx hZ;have hR:Bx XF (w.heap.size+1) [b.tick,b.next,b.wallet,(.slice a10 n10 k10),(.slice a20 n20 k20),(.slice a30 n30 k30)]:=hT.r;have hL:=Iq NE Ip hR rfl;refine bodyPost_ret (v := .agg #[b.tick,b.next,b.wallet,(.slice a10 n10 k10),(.slice a20 n20 k20),(.slice a30 n30 k30)]) (by simp only [results,Tryz.results79];simp [Act.put,hL,asAddr]) rfl ?_;exact pI
  |clear hTx exx hZ;have hR:Bx XF (w.heap.size+1) [(.slice a10 n10 k10),(.slice a20 n20 k20)]:=hT.r;have hL:=Iq Yb Ke hR rfl;refine bodyPost_ret (v := .agg #[(.slice a10 n10 k10),(.slice a20 n20 k20)]) (by simp only [results,Tryz.results49];simp [Act.put,hL,asAddr]) rfl ?_;have B8s:=trivial;exact PL):p:=h
theorem rL(h:p:=by
 have hnew:∀ q∈(Value.slice a2 n2 c2).ownBlock.toList,q∉A5 (.slice (some ⟨w,0,none⟩) len len :: vs):=fun q hq hm=>by
  have h1:=(ho.blk q hq).1;have h2:=(hlt2 q hm).2;omega
 clear hcl hown;go_wp2;go_roundw
 first
 |clear B8t
  case rel =>
   have hp:=ts hown2 hlt Hl.out.symm ht.out (ho.le (Nat.le_trans hB.size sM)) hnew;exact ⟨k+1,_,AA,Ab,hp.1,bW⟩
  case measure=>simp [intOf];omega
 |case rel =>
   have hp:=yC hown2 hlt Hl.out.symm ht.out (ho.le (Nat.le_trans hB.size sM)) hok hnew;exact ⟨k+1,_,AA,Ab,hp.1,bW⟩
  case measure=>simp [intOf];omega):p:=h
theorem rM(h:p:=by
 have aok2:=aok _ (List.mem_of_getElem? ai2);exact Tt):p:=h
theorem kF(h:p:=by
 obtain ⟨g,hgg⟩:∃ g,g=w8.heap.size:=⟨_,rfl⟩;rw [← hgg] at H ⊢;have hK:=K.lt
 have nX:∀ u,u<B0→u∉g :: F:=fun u hu hm=>by
  rcases List.mem_cons.1 hm with e | hm
  ·omega
  have:=(hK u hm).1;omega
 first
 |clear A9n
  generalize w8.alloc (.cells #[b.tick,b.next,b.wallet, .slice a1 n1 c1, .slice a2 n2 c2, .slice a3 n3 c3, .slice none 0 0,I0] 219)=w9 at H b9 ⊢;have A9J:=trivial;exact iu
 |have hrow:∀ gx off,ax=some ⟨gx,off,none⟩→0<n→gx<g:=fun gx off e h0=>by
   obtain ⟨g1,o1,x1,e1,hl,-⟩:=Bz.at_ V4.chans h0;rw [e] at e1;simp only [Option.some.injEq,Addr.mk.injEq] at e1;omega
  generalize w8.alloc (.cells #[b.tick,b.next,b.wallet, .slice a1 n1 c1, .slice a2 n2 c2, .slice a3 n3 c3, .slice none 0 0,I0] 196)=w9 at H b9 ⊢
  first
  |clear B8a
   have A9V:=trivial;exact OS
  |clear B8b
   have A9X:=trivial;exact OS
  |clear B8c
   have A9Z:=trivial;exact OS
  |exact OS):p:=h
theorem rN(h:p:=by
 have hno:Hid (Bd h=false):=Ew (fun e=>by
  have e2:=e.2.2.2.2.2.2.2;have e3:=e2.length_le;have:=HNT.out
  have:=HNE.out
  omega)
 exact FZ):p:=h
theorem rO(h:p:=by
 have hfl:(d.cells.all Ga && d.dirty.all (IA d.cells.length))=BO d:=by
  rw [Mw,HN.out,HM.out,decide_eq_true h1,decide_eq_true h2];simp
 have HFL:=lH hfl;clear hfl;obtain ⟨h3,h4⟩:=h1
 first
 |clear B8u
  go_enter Tryz.func57,Tryz.ntmps57
  have B8d:=trivial;exact PK
 |go_enter Tryz.func48,Tryz.ntmps48
  have B8e:=trivial;exact PK):p:=h
theorem qz(h:p:=by
 have e5:((b.tick+1) % 5 == 0)=false:=by simpa using h5
 simp only [h5,if_false] at hm2 hi2 HL ⊢;have hid2:∀ k,Cf (fun c:Cn=>c) b.chans k=b.chans:=fun k=>by simp [Cf]
 rw [hid2] at HL
 first
 |clear B7y
  have HL2:Wk F (.slice (some ⟨gx,0,none⟩) n2 c2) wr g B {b with tick:=b.tick+1,htlcs:=b.htlcs.map Bw,chans:=Cf (fun c:Cn=>c) b.chans (k2+1)} ls kd:=by rw [hid2];exact HL
  exact pJ
 |have HL2:Wk F (.slice (some ⟨gx,0,none⟩) n2 c2) wr g B {b with tick:=b.tick+1,htlcs:=b.htlcs.map Bw,chans:=Cf (fun c:Cn=>c) b.chans (k2+1)} ls 0:=by rw [hid2];exact HL
  exact pJ):p:=h
theorem PC(h:p:=by
 have H5:=FK;have PE:=PE';have nE:=nE';have WX:=WX'
 first
 |clear B8v
  clear FK PE' nE' WX';exact jn
 |clear B58
  first
  |clear B0h
   clear FK PE' nE' WX' p2 zr c4 PP;have LI:=LsIn.nil
   first
   |clear B8w
    have B8x:=trivial;exact rP
   |have B8y:=trivial;exact rQ
  |clear FK PE' nE' WX' cA zA c4;have LI:=LsIn.nil
   first
   |clear B8z
    have c2:=PE.cell 2 _ rfl;have hwr3:IntKind.i64.wrap (-(am+fe)) = -(am+fe):=Ao;obtain ⟨hg,LI⟩:=LsIn.add LI (x:=⟨6,ch,-(am+fe)⟩) sM Cq uL sM;(go_wp2_with fail);refine (DJ _ _ g B _ _ 0 6 ch (-(am+fe)) _ H5 hg).mono ?_;have B80:=trivial;exact Ja
   |have B81:=trivial;exact Kb
 |clear B7K
  clear FK PE' nE' WX' cA zA;have di2:=Fw (ch:=ch) (f:=(AO (-(am+fe)) 0)) di (by rw [did];exact hct.symm);have AT:=H5.at di2 did (D6 (fun _=>rfl) hso);have cA:_=some (Value.int IntKind.i64 (D.rem)):=AT.1 3 _ rfl;have zA:=AT.2.1 (jd*7+3);have c4:=PE.cell 4 _ rfl;have hwr2:IntKind.i64.wrap (D.rem - am)=D.rem - am:=Ao;have FIN:=AT.2.2 3 (.int .i64 (D.rem - am)) (AO 0 (-am)) dC N2 (EG dok uI uI);have B82:=trivial;exact Ls
 |clear FK PE' nE' WX' cA zA;have di2:=Fw (ch:=ch) (f:=(AO 0 (-(am+fv)))) di (by rw [did];exact hct.symm);have AT:=H5.at di2 did (D6 (fun _=>rfl) hso);have cA:_=some (Value.int IntKind.i64 (D.loc)):=AT.1 2 _ rfl;have zA:=AT.2.1 (jd*7+2);have c4:=PE.cell 4 _ rfl;have hwr5:IntKind.i64.wrap (D.loc - am)=D.loc - am:=Ao;have FIN:=AT.2.2 2 (.int .i64 (D.loc - am)) (AO (-am) 0) dC N2 (EG dok uI uI);exact Ls):p:=h
theorem RE(h:p:=by
 have h1:=List.mem_of_find?_eq_some hf;have h2:=List.find?_some hf;simp at h2;exact ⟨h1,h2⟩):p:=h
theorem rR(h:p:=by
 refine J2 (G1:=G2) (n:=w.heap.size) hd (GA v') hfr (fun k hk => ?_) (fun k hk=>(O.lt k hk).2);exact pt):p:=h
theorem mb(h:p:=by
 have hp:Dz p=false:=hp;obtain ⟨r0,r1⟩:=RX.c2;obtain ⟨z0,z1⟩:=RX.z2
 have hres:Hid (BV l p=(1,Lg.zero)):=by
  unfold Hid BV;rw [HL.out,hp,Bool.true_and,if_pos rfl]
 first
 |clear B14
  exact Ob
 |exact Tl):p:=h
theorem rS(h:p:=by
 have hcmp:(S1.toList == S2.toList)=false:=R6;have hres:Hid (Ca xs=none):=A2L dN;clear P1 P2 P3 Q3 V2 V3 O2 O3 F p0 p1 p2 C3 hSB hSl hS1 hS2 heq Vb b3 hnc;go_wp2
 first
 |clear B83
  exact pO
 |exact rT):p:=h
theorem PM(h:p:=by
 have H5:=H6;exact MG):p:=h
theorem lm(h:p:=by
 have hl:Bq l=false:=hl;obtain ⟨r0,r1⟩:=RX.c2;obtain ⟨z0,z1⟩:=RX.z2
 have hres:Hid (BV l p=(1,Lg.zero)):=by
  unfold Hid BV;rw [hl,Bool.false_and,if_pos rfl]
 first
 |clear B05
  exact Ob
 |exact Tl):p:=h
theorem rU(h:p:=by
 have hno:Hid (Bd h=false):=Ew (fun e=>by
  have e2:=e.2.2.2.2.2.2.1
  rw [← HR.out] at e2;have:=HQ2.out.2 e2;cases this)
 exact FZ):p:=h
theorem Zm(h:p:=by
 have e:((i+1:Nat):Int) - 1=(i:Int):=AA;rw [e];obtain ⟨b,hbt⟩:∃ b,b=UInt8.ofNat (n / 256 ^ i % 256):=⟨_,rfl⟩;have hbe2:Hid ((ys ++ [b]) ++ be n i=be n size):=A5D
 first
 |clear A3H
  have hw:(n:Int) / 2 ^ (8*i) % 256=(b.toNat:Int):=by rw [hbt,Uw];exact zJ n i
  have hi:i<7:=AA;have hbB:=Nat.le_trans hB hb.size;have B4Q:=trivial;exact oh
 |have hi:i<7:=AA;have CQ:=fun w0=>Ue i w0 oM;have hq:=YR i oM;have hq0:0<256 ^ i:=Nat.pow_pos oM;obtain ⟨R,hR⟩:∃ R,R=256 ^ i:=⟨_,rfl⟩;rw [← hR] at hq hq0 hbt;simp only [← hR] at CQ;have hw:(wrap64 ((n:Int) / (R:Int))).tmod 256 % 256=(b.toNat:Int):=by rw [vU n R oM,hbt,Uw]
  have hR0:¬ ((R:Int)=0):=AA;have hbB:=hb.size;exact oh):p:=h
theorem rV(h:p:=by
 have hno:Hid (Bd h=false):=Ew (fun e=>by
  have e2:=e.2.2.2.2.2.1
  rw [← HR.out] at e2;have:=HQ1.out.2 e2;cases this)
 exact FZ):p:=h
theorem oz(h:p:=by
 rintro e w2 ⟨⟨r,rfl,hr⟩,hb⟩;have hB2:Below w w w2:=AD hb (bW);rcases hr with rfl | ⟨r0,r1,r2⟩
 ·exact Gw
 first
 |clear B4e
  have hall2:Hid (∀ y∈xs.take (k+1),(y).length≤1048576):=fun y hy=>by
   exact rW
  go_wp2;exact rX
 |have hall2:Hid (∀ y∈xs.take (k+1),(y.bytes).length≤1048576):=fun y hy=>by
   exact rW
  go_wp2;exact rX):p:=h
theorem rY(h:p:=by
 have aok:=H.oks a (List.mem_of_getElem? hi);have hm2:=LE (ch:=ch) (f:=fun c=>({c with base:=am}:Cn)) hi aid;have AT:=H.at hi aid hb.so;have k4:=AT.1 4 _ rfl
 first
 |clear B84
  have k5:=AT.1 5 _ rfl;have z4:=AT.2.1 (i*7+4);have z5:=AT.2.1 (i*7+5);have B85:=trivial;exact rZ
 |have z4:=AT.2.1 (i*7+4);obtain ⟨yp,zp,lp,PP,-,-⟩:=H.cells;have g3:=PP.cell 3 _ rfl;have e4:=PE.cell 4 _ rfl;exact rZ):p:=h
theorem ra(h:p:=by
 have e13:(rv == 0)=false:=by simp [h13]
 have E13:=lH (show decide (rv=0)=false from decide_eq_false h13);clear h13;have HCD:Hid (cd=0):=ee
 first
 |clear B86
  exact absurd HCD.out HCP.out
 |exact PO):p:=h
theorem oO(h:p:=by
 have e20:((m:Int) == 60)=false:=An;have E21:=lH (show decide (60≤b.htlcs.length)=false from decide_eq_false A6B);clear h20;have HCX:Hid (c1=0):=OA
 first
 |clear B3v
  exact absurd HCX.out HCQ.out
 |have B3K:=trivial;exact OC):p:=h
theorem js(h:p:=by
 obtain ⟨S1,hS1⟩:∃ s,s=ByteArray.mk SB.toArray:=⟨_,rfl⟩;obtain ⟨S2,hS2⟩:∃ s,s=ByteArray.mk xs.toArray:=⟨_,rfl⟩;rw [← hS1] at cv1;rw [← hS2] at cv2
 first
 |clear A9D
  obtain ⟨q0,q1,q2,q3,q4,q5,q6⟩:=Q3.c7;obtain ⟨r0,r1,r2,r3,r4,r5,r6⟩:=P3.c7;obtain ⟨z0,z1,z2,z3,z4,z5,z6⟩:=P3.z7;have hgq:=Q3.lt;clear p0 p1 p2 p3 p4 p5 p6 C3;by_cases heq:SB=xs
  first
  |clear B72
   ·have B3n:=trivial;exact oN
   have B5v:=trivial;exact qA
  |·exact oN
   exact qA
 |obtain ⟨q0,q1,q2⟩:=Q3.c3;obtain ⟨r0,r1,r2⟩:=P3.c3
  first
  |clear A95
   first
   |clear B74
    have z0:=P3.fz 0 dC;have z1:=P3.fz 1 dC;have z2:=P3.fz 2 dC;have hgq:=Q3.lt;have HP:=lH P3;have HQ:=lH Q3;by_cases heq:SB=xs;rotate_left
    ·have B83:=trivial;exact rS
    have B8X:=trivial;exact rE
   |obtain ⟨z0,z1,z2⟩:=P3.z3;have hgq:=Q3.lt;by_cases heq:SB=xs;rotate_left
    ·exact rS
    exact rE
  |obtain ⟨z0,z1,z2⟩:=P3.z3;have hgq:=Q3.lt
   have heq:¬ SB=xs:=fun e=>by
    have h1:=A2M ⟨sq,ep,[]⟩;rw [← hSB,e,HB7.out] at h1;(have:x7.toNat=0:=h1);omega
   have hcmp:(S1.toList == S2.toList)=false:=R6;have hres:Hid (Ca xs=none):=QZ Nm;clear P1 P2 P3 Q3 V2 V3 O3 F p0 p1 p2 C3 hSB hSl hS1 hS2 heq Vb b3 hnc;exact T4):p:=h
theorem rc(h:p:=by
 have e13:(rv == 0)=true:=by simp [h13]
 have E13:=lH (show decide (rv=0)=true from decide_eq_true h13);clear h13;have HCD:Hid (cd=13):=ee
 first
 |clear B87
  have B88:=trivial;exact PO
 |exact PR):p:=h
theorem oP(h:p:=by
 have e20:((m:Int) == 60)=true:=An;have E21:=lH (show decide (60≤b.htlcs.length)=true from decide_eq_true EL);clear h20;have HCX:Hid (c1=14):=OA
 first
 |clear B3w
  have B3J:=trivial;exact OC
 |exact Tr):p:=h
theorem To(h:p:=by
 refine tK 22 ?_;refine tH 23 fun K hK => ?_;go_simp;go_at_call 149
 first
 |clear B89
  first
  |clear B31
   exact fo
  |refine (Dr g 3 _ Zc1).mono ?_;exact jM
 |clear B9A
  first
  |clear B4o
   refine (Du g 12 _ Zc1 Fc1 dC).mono ?_;rintro e w2 ⟨rfl,hw2⟩;have FC:=Hc1.setCode 12;have PS:=Pc1.set1 7 (.int .i64 12) AF;have QS0:=Ec10.otherC g 7 (.int .i64 12) hneq;have B9B:=trivial;exact Th
  |refine (Dr g 12 _ Zc1).mono ?_;have B3L:=trivial;exact jM
 |exact fo):p:=h
theorem rd(h:p:=by
 have hB3:=AD hB2 hB;have hBw2:=AD hB3 B0;have hbT2:=XO hP ch k;generalize hT2:((b.circles.take k).map (CY ch)).sum=T2 at hbT2 ⊢
 first
 |clear B9C
  have hbU2:=Qh hP ch k;generalize hU2:((b.circles.take k).map (Bu ch)).sum=U2 at hbU2 ⊢;have hT2:=lH hT2;have hU2:=lH hU2;by_cases hlt:k<q;rotate_left
  ·skip
   have hfo:Hid (T+T2=BJ b ch):=cw;have hfi:Hid (U+U2=BU b ch):=dA;go_wp2;refine bodyPost_ret (by simp only [results,Tryz.results143];go_simp;rfl) rfl ?_;exact ⟨by rw [← hfo.out,← hfi.out],bW⟩
  have B9D:=trivial;exact UJ
 |have hT2:=lH hT2;by_cases hlt:k<q;rotate_left
  ·skip
   have hfo:Hid (T+T2=BJ b ch):=cw;go_wp2;go_ret;exact ⟨CD (by rw [← hfo.out]),bW⟩
  exact UJ):p:=h
theorem re(h:p:=by
 clear hs h1 hgo;exact UK):p:=h
theorem rf(h:p:=by
 go_wp2;go_roundw
 case rel=>exact ⟨k+1,⟨bk,ps,cs ++ [cd]⟩,_,_,_,F2,us,AA,Ab,hnx,Q8,Oo,hF,psn,csn,hBn⟩
 case measure=>simp only [intOf];omega):p:=h
theorem rg(h:p:=by
 have hr0:¬ (1≤ci∧ci≤99):=of_decide_eq_false hb0;have CH:=fun w=>Mc ci w;simp only [show Et ci=false from hb0] at CH;clear hb0
 first
 |clear B9E
  have B2s:=trivial;exact Il
 |exact Gu):p:=h
theorem B9F(h:p:=by
 have hno:Hid (Ak b=false):=by
  unfold Hid;unfold Ak;rw [HN.out,decide_eq_false hn20];simp
 exact BH):p:=h
theorem rh(h:p:=by
 simp only [World.setCells,Nat.zero_add,Nat.reduceAdd] at FQ FB;try go_wp2_with fail
 go_meet
 case rel=>exact ⟨w0,rfl,Nat.le_refl _,FQ,FB⟩):p:=h
theorem kj(h:p:=by
 rw [← hwS];clear hwS FX hzS x0 x1 x2 x3 x4 x5 q0 q1 q2 q3 q4 q5 y0 y1 y2 y3 y4 y5 hql h12l P12 Oo Q8;obtain ⟨x0,x1⟩:=P13.c2;by_cases h1:pl = []
 first
 |clear B0G
  ·have hnx:Hid (Dt b es (k+1)=⟨b2,ps,cs ++ [0]⟩):=eO;(have hnl0:nl=0:=by rw [HNL.out,h1];rfl);subst hnl0;clear h1;go_wp2;go_roundw
   case rel=>exact ⟨k+1,⟨b2,ps,cs ++ [0]⟩,_,_,_,F6,us,AA,Ab,hnx,QS,On.le hwb,hF6,psn,csn,hBn⟩
   case measure=>simp only [intOf];omega
  have hnx:Hid (Dt b es (k+1)=⟨b2,ps ++ [⟨pi,pl⟩],cs ++ [0]⟩):=eP;have hnl0:0<nl:=by rw [HNL.out];exact List.length_pos_iff.2 h1
  have e1:decide (0<nl)=true:=by simp [hnl0]
  have e2:decide ((0:Int)<(nl:Int))=true:=by simp [hnl0]
  have A75:=trivial;exact ij
 |·have hnx:Hid (Dt b es (k+1)=⟨b2,ps,cs ++ [0]⟩):=eO;have hpi0:¬ 0<pi:=fun h=>HID.out.1 h h1;(have e1:decide (0<pi)=false:=by simp [hpi0]);clear h1;have B9G:=trivial;exact ik
  have hnx:Hid (Dt b es (k+1)=⟨b2,ps ++ [⟨pi,pl⟩],cs ++ [0]⟩):=eP;have hpi0:0<pi:=HID.out.2 h1;have e1:decide (0<pi)=true:=by simp [hpi0]
  exact ij):p:=h
theorem MF(h:p:=by
 refine tK 10 ?_;refine tK 11 ?_;refine tK 12 ?_;refine tK 13 ?_
 first
 |clear B9H
  refine tK 14 ?_;refine tH 15 fun K hK => ?_;go_simp;go_at_call 46
  refine (WZ _ _ hub.log.disk _ (VX.hub.log.disk.keep Bc2)).mono ?_;exact gI
 |clear B6R
  refine tH 14 fun K hK => ?_;go_simp;go_at_call 149
  first
  |clear B9I
   refine (Dr g 2 _ D7).mono ?_;rintro e w11 ⟨rfl,rfl⟩;have B9J:=trivial;exact qv
  |refine (Du g 2 _ D7 DF dC).mono ?_;rintro e w11 ⟨rfl,hw2⟩;have FC:=HD.setCode 2;have PS:=(PB.keep BD).otherC g 7 (.int .i64 2) hbg;have QS:=(PE.keep BD).otherC g 7 (.int .i64 2) heg;(have CS:(w10.drew.setCell ⟨g,7,none⟩ (.int .i64 2)).cell? ⟨gx,off+i*7+2,none⟩=.some A.loc:=by rw [World.cell?_setCell_far _ _ _ _ (by intro e;simp at e;exact hgx e.symm)];exact dk);rw [hw2] at FC PS QS CS;have zs2:=PS.cell 2 _ rfl;have zs3:=PS.cell 3 _ rfl;have zs5:=QS.cell 5 _ rfl;clear hw2;exact qv
 |refine tK 14 ?_;refine tK 15 ?_
  first
  |clear B9K
   refine tH 16 fun K hK => ?_;go_simp;go_at_call 149
   first
   |clear B3q
    refine (Dr g 8 _ Zc1).mono ?_;have B9L:=trivial;exact GN
   |refine (Du g 8 _ Zc1 Fc1 dC).mono ?_;rintro e w2 ⟨rfl,hw2⟩;have FC:=Hc1.setCode 8;have PS:=Pc1.set1 7 (.int .i64 8) AF;have QS0:=Ec10.otherC g 7 (.int .i64 8) hneq;have QS1:=Ec11.otherC g 7 (.int .i64 8) hnuc;have B9M:=trivial;exact lc
  |refine tK 16 ?_;refine tK 17 ?_
   first
   |clear B9N
    refine tK 18 ?_;refine tK 19 ?_;refine tH 20 fun K hK => ?_;go_simp;(go_at_call 245);refine (CT _ (V0.keep Bc1)).mono ?_;exact oG
   |refine tH 18 fun K hK => ?_;go_simp;go_at_call 260
    first
    |clear B5R
     refine (zd g 3 w1).mono ?_;rintro e w2 ⟨rfl,rfl⟩;have B9O:=trivial;exact ir
    |exact iq):p:=h
theorem Zi(h:p:=by
 rintro e wx ⟨⟨r1,rfl,hr⟩,rfl⟩;have B9P:=trivial;exact ri):p:=h
theorem Sd(h:p:=by
 clear hw2;exact Dm):p:=h
theorem rj(h:p:=by
 rintro e wx ⟨⟨r4,rfl,hr⟩,rfl⟩;rcases hr with rfl | ⟨r4a,r4b,q4⟩
 ·exact Gw
 go_wp2_with fail
 first
 |clear B9Q
  refine (A1i _ W.codes _ _ (V.codes.keep (bW)) r4a oM).mono ?_;exact om
 |refine (NM _ h.sent _ _ (V.sent.keep (bW)) r4a oM).mono ?_;exact om):p:=h
theorem rk(h:p:=by
 have hr0:1≤ci∧ci≤99:=of_decide_eq_true hb0;have CH:=fun w=>Mc ci w;simp only [show Et ci=true from hb0] at CH;clear hb0
 first
 |clear B9R
  cases hb1:AH cl
  ·have hr1:¬ (0≤cl∧cl≤1125899906842624):=of_decide_eq_false hb1;have AL:=fun w=>Az cl w;simp only [show AH cl=false from hb1] at AL;clear hb1;have B2t:=trivial;exact Il
  have hr1:0≤cl∧cl≤1125899906842624:=of_decide_eq_true hb1;have AL:=fun w=>Az cl w;simp only [show AH cl=true from hb1] at AL;clear hb1;cases hb2:AH cr
  ·have hr2:¬ (0≤cr∧cr≤1125899906842624):=of_decide_eq_false hb2;have AR:=fun w=>Az cr w;simp only [show AH cr=false from hb2] at AR;have B2w:=trivial;exact kw
  have hr2:0≤cr∧cr≤1125899906842624:=of_decide_eq_true hb2;have AR:=fun w=>Az cr w;simp only [show AH cr=true from hb2] at AR;clear hb2;cases hb3:AH cb
  ·have hr3:¬ (0≤cb∧cb≤1125899906842624):=of_decide_eq_false hb3;have AB:=fun w=>Az cb w;simp only [show AH cb=false from hb3] at AB;have B2x:=trivial;exact kx
  have hr3:0≤cb∧cb≤1125899906842624:=of_decide_eq_true hb3;have AB:=fun w=>Az cb w;simp only [show AH cb=true from hb3] at AB;clear hb3;cases hb4:Ad cp 0 1000000
  ·have hr4:¬ (0≤cp∧cp≤1000000):=of_decide_eq_false hb4;have PP:=fun w=>Cy cp 0 1000000 w;simp only [show Ad cp 0 1000000=false from hb4] at PP;clear hb4;have B2u:=trivial;exact Il
  have hr4:0≤cp∧cp≤1000000:=of_decide_eq_true hb4;have PP:=fun w=>Cy cp 0 1000000 w;simp only [show Ad cp 0 1000000=true from hb4] at PP;clear hb4;cases hb5:BI cs
  ·have hr5:¬ (-100≤cs∧cs≤100):=of_decide_eq_false hb5;have SC:=fun w=>IL cs w;simp only [show BI cs=false from hb5] at SC;clear hb5;have B2v:=trivial;exact Il
  have hr5 : -100≤cs∧cs≤100:=of_decide_eq_true hb5;have SC:=fun w=>IL cs w;simp only [show BI cs=true from hb5] at SC;clear hb5;cases hb6:AH cz
  ·have hr6:¬ (0≤cz∧cz≤1125899906842624):=of_decide_eq_false hb6;have AZ:=fun w=>Az cz w;simp only [show AH cz=false from hb6] at AZ;clear hb6;have B9S:=trivial;exact Gu
  have hr6:0≤cz∧cz≤1125899906842624:=of_decide_eq_true hb6;have AZ:=fun w=>Az cz w;simp only [show AH cz=true from hb6] at AZ;clear hb6;exact jR
 |by_cases hord:ci≤pid
  ·have e1:decide (ci≤pid)=true:=decide_eq_true hord;have hno:Hid (Ak b=false):=LK (Vv hpx.out (by rw [← Hj.out];exact hx.out) hord);exact iP
  have e1:decide (ci≤pid)=false:=decide_eq_false hord;cases hb2:AH cl
  ·have hr2:¬ (0≤cl∧cl≤1125899906842624):=of_decide_eq_false hb2;have AL:=fun w=>Az cl w;simp only [show AH cl=false from hb2] at AL;clear hb2;have B2f:=trivial;exact KR
  have hr2:0≤cl∧cl≤1125899906842624:=of_decide_eq_true hb2;have AL:=fun w=>Az cl w;simp only [show AH cl=true from hb2] at AL;clear hb2;cases hb3:AH cr
  ·have hr3:¬ (0≤cr∧cr≤1125899906842624):=of_decide_eq_false hb3;have AR:=fun w=>Az cr w;simp only [show AH cr=false from hb3] at AR;have B2m:=trivial;exact kB
  have hr3:0≤cr∧cr≤1125899906842624:=of_decide_eq_true hb3;have AR:=fun w=>Az cr w;simp only [show AH cr=true from hb3] at AR;clear hb3;cases hb4:AH cb
  ·have hr4:¬ (0≤cb∧cb≤1125899906842624):=of_decide_eq_false hb4;have AB:=fun w=>Az cb w;simp only [show AH cb=false from hb4] at AB;have B2p:=trivial;exact kC
  have hr4:0≤cb∧cb≤1125899906842624:=of_decide_eq_true hb4;have AB:=fun w=>Az cb w;simp only [show AH cb=true from hb4] at AB;clear hb4;cases hb5:Ad cp 0 1000000
  ·have hr5:¬ (0≤cp∧cp≤1000000):=of_decide_eq_false hb5;have PP:=fun w=>Cy cp 0 1000000 w;simp only [show Ad cp 0 1000000=false from hb5] at PP;clear hb5;have B2h:=trivial;exact KR
  have hr5:0≤cp∧cp≤1000000:=of_decide_eq_true hb5;have PP:=fun w=>Cy cp 0 1000000 w;simp only [show Ad cp 0 1000000=true from hb5] at PP;clear hb5;cases hb6:BI cs
  ·have hr6:¬ (-100≤cs∧cs≤100):=of_decide_eq_false hb6;have SC:=fun w=>IL cs w;simp only [show BI cs=false from hb6] at SC;clear hb6;have B2j:=trivial;exact KR
  have hr6 : -100≤cs∧cs≤100:=of_decide_eq_true hb6;have SC:=fun w=>IL cs w;simp only [show BI cs=true from hb6] at SC;clear hb6;cases hb7:AH cz
  ·have hr7:¬ (0≤cz∧cz≤1125899906842624):=of_decide_eq_false hb7;have AZ:=fun w=>Az cz w;simp only [show AH cz=false from hb7] at AZ;clear hb7;have B9T:=trivial;exact Gu
  have hr7:0≤cz∧cz≤1125899906842624:=of_decide_eq_true hb7;have AZ:=fun w=>Az cz w;simp only [show AH cz=true from hb7] at AZ;clear hb7;exact ix):p:=h
theorem pe(h:p:=by
 have hno:Hid (Bd h=false):=Ew (fun e=>by
  have e2:=e.2.2.2.2.1
  rw [← HR.out] at e2;cases e2)
 exact FZ):p:=h
theorem rP(h:p:=by
 have c2:=PE.cell 2 _ rfl;have c4:=PE.cell 4 _ rfl;obtain ⟨hg,LI⟩:=LsIn.add LI (x:=⟨6,ch,am⟩) sM Cq uL sM;go_wp2_with fail
 first
 |clear B8x
  refine (DJ _ _ g B _ _ 0 6 ch (am) _ H5 hg).mono ?_;have B9U:=trivial;exact Ja
 |refine (DK _ _ g B _ _ 0 6 ch (am) _ H5 hg).mono ?_;have B9V:=trivial;exact Ja):p:=h
theorem bT(h:p:=by
 subst hk0;have hcode:=A17 (b:=b) (e:=⟨9,ky,ch,tt,am,fe,ys⟩) ho rfl;unfold Dn;generalize AQ b ⟨9,ky,ch,tt,am,fe,ys⟩=cd at hcode ⊢
 first
 |clear A4k
  have B9W:=trivial;exact jp
 |have B5x:=trivial;exact OG):p:=h
theorem bY(h:p:=by
 subst hk0;have hcode:=WH (b:=b) (e:=⟨5,ky,ch,tt,am,fe,ys⟩) ho rfl;unfold Dn;generalize AQ b ⟨5,ky,ch,tt,am,fe,ys⟩=cd at hcode ⊢
 first
 |clear A4m
  exact jp
 |have B5y:=trivial;exact OG):p:=h
theorem UB(h:p:=by
 have Bc1:Below w0 w0 wc1:=Below.trans BD (Below.mono bc1 BD.size);have Hc1:=H0.keep Bc1;have Pc1:=P0.keep Bc1;have Ec10:=PE.keep Bc1
 first
 |clear B6O
  have Ec11:=Q.keep Bc1;have B9X:=trivial;exact PF
 |exact PF):p:=h
theorem UL(h:p:=by
 have hgr:¬ g=ur:=fun e=>nR EN;have hgp:¬ g=up:=fun e=>nP EN;have hgr':¬ ur=g:=fun e=>hgr e.symm;have hgp':¬ up=g:=fun e=>hgp e.symm
 first
 |clear B9Y
  obtain ⟨yq,zq,lq,PQ,-,-⟩:=H7.cells;have q7:=PQ.cell 7 _ rfl;exact fP
 |obtain ⟨yq,zq,lq,PQ,VQ,VL⟩:=H7.cells;have q7:=PQ.cell 7 _ rfl
  first
  |clear B9Z
   by_cases h0:cd=0;rotate_left
   ·have e7:(cd != 0)=true:=A8;have H0:=lH h0;clear h0 hdone VQ VL;have A8D:=trivial;exact JU
   have B1w:=trivial;exact mV
  |by_cases h0:cd=0;rotate_left
   ·have e7:(cd != 0)=true:=A8;have H0:=lH h0;clear h0 hdone VQ VL;exact fP
   exact mV):p:=h
theorem B9a(h:p:=by
 rw [hL] at hy;rcases YE _ hy with rfl | hy
 ·exact ⟨Ct,Ct,Ct,Ct,Ct,Ct,Ct⟩
 exact OKS y hy):p:=h
theorem rm(h:p:=by
 have hKF:Hid (KK=b.circles.filter (fun h => !decide (h.key=ky))):=eT;have hse:=hsel.out;rw [YS EL] at hse;clear hKK hsel
 first
 |clear B9b
  have hnone:b.circles.find? (fun h=>decide (h.key=ky))=none:=by
   rw [List.find?_eq_none];intro h hm e;have hany:Ay b ky=true:=List.any_eq_true.2 ⟨h,hm,e⟩;rw [hh] at hany;cases hany
  exact jK
 |have B9c:=trivial;exact JT):p:=h
theorem UG(h:p:=by
 rintro e w2 ⟨⟨v',rfl,own⟩,b2⟩;have own':=AC.le (B':=w.heap.size) own hB.size;obtain ⟨va,vc,rfl,-⟩:=AK.form own';go_wp2
 first
 |clear B76
  refine bodyPost_ret (by simp only [results,Tryz.results217];go_simp;rfl) rfl ?_;exact rq
 |go_ret
  first
  |clear B9d
   exact ⟨⟨_,rfl,by rw [hhit.out];exact own'⟩,AD b2 hB⟩
  |exact rq):p:=h
theorem nD(h:p:=by
 have x4:=Q.cell 4 _ rfl;have x3:=Q.cell 3 _ rfl;obtain ⟨hg,LI⟩:=LsIn.add LI (x:=⟨3,0,q4 - q3⟩) sM Cq uL sM;go_wp2_with fail
 first
 |clear B37
  refine (DJ _ _ g B _ _ 0 3 0 (q4 - q3) _ H5 hg).mono ?_;have B9e:=trivial;exact MC
 |refine (DK _ _ g B _ _ 0 3 0 (q4 - q3) _ H5 hg).mono ?_;rintro e w9 ⟨rfl,F9,H9,W9⟩;have B9f:=trivial;exact mQ):p:=h
theorem Rd(h:p:=by
 go_enter Tryz.func149,Tryz.ntmps149
 exact IY):p:=h
theorem rr(h:p:=by
 have hKF:Hid (KK=b.htlcs.filter (fun h => !decide (h.key=ky))):=eT;have hse:=hsel.out;rw [YS EL] at hse;clear hKK hsel
 first
 |clear B9g
  have hnone:b.htlcs.find? (fun h=>decide (h.key=ky))=none:=by
   rw [List.find?_eq_none];intro h hm e;have hany:Aw b ky=true:=List.any_eq_true.2 ⟨h,hm,e⟩;rw [hh] at hany;cases hany
  exact jK
 |exact JT):p:=h
theorem er(h:p:=by
 have hnx:Hid (Dt b es (k+1)=⟨bk,ps,cs ++ [cd]⟩):=A50;have e0:(cd != 0)=true:=A8;have e1:(cd == 0)=false:=A8;clear h0
 first
 |clear B9h
  exact rf
 |have B3j:=trivial;exact eo):p:=h
theorem TA(h:p:=by
 have x2:=Q.cell 2 _ rfl;have x4:=Q.cell 4 _ rfl;obtain ⟨hg,LI⟩:=LsIn.add LI (x:=⟨8,q2,-q4⟩) sM Cq uL sM;go_wp2_with fail
 first
 |clear A8o
  refine (DJ _ _ g B _ _ 0 8 q2 (-q4) _ H5 hg).mono ?_;have B9i:=trivial;exact MC
 |refine (DK _ _ g B _ _ 0 8 q2 (-q4) _ H5 hg).mono ?_;rintro e w9 ⟨rfl,F9,H9,W9⟩;exact oH):p:=h
theorem nF(h:p:=by
 have x2:=Q.cell 2 _ rfl;have x4:=Q.cell 4 _ rfl;obtain ⟨hg,LI⟩:=LsIn.add LI (x:=⟨6,q2,q4⟩) sM Cq uL sM;go_wp2_with fail
 first
 |clear B38
  refine (DJ _ _ g B _ _ 0 6 q2 (q4) _ H5 hg).mono ?_;have B9j:=trivial;exact Im
 |refine (DK _ _ g B _ _ 0 6 q2 (q4) _ H5 hg).mono ?_;have B9k:=trivial;exact Lu):p:=h
theorem rt(h:p:=by
 have hMb:=of_decide_eq_true hM;have INR:=fun w=>Ww amt w;simp only [show CJ amt=true from hM] at INR;by_cases hZ:amt=0
 first
 |clear B9l
  ·have B9m:=trivial;exact Oh
  have hZ':(amt == 0)=false:=Lh;have hK':decide (320<k)=false:=decide_eq_false oM;have B9n:=trivial;exact ru
 |·have B9o:=trivial;exact Oh
  have hZ':(amt == 0)=false:=Lh;have hK':decide (320<k)=false:=decide_eq_false oM;have B9p:=trivial;exact rx):p:=h
theorem TR(h:p:=by
 clear hx ht hxy;exact PW):p:=h
theorem Z7(h:p:=by
 obtain ⟨a,n,c,rfl,hn0,-⟩:=VS.form V;have HN:=lH hn0;clear hn0;by_cases h:(0≤sq∧sq≤599)∧(1≤ep∧ep≤16000000)∧n≤100
 first
 |clear A3i
  ·have hy:Hid (DD ⟨sq,ep,body⟩=true):=dL;obtain ⟨⟨h1,h2⟩,⟨h3,h4⟩,h5⟩:=h;(go_enter Tryz.func272,Tryz.ntmps272);go_wp2;go_ret;exact ⟨Ag Nl,bW⟩
  have B9q:=trivial;exact ry
 |·have hy:Hid (DD ⟨sq,ep,body⟩=true):=dL;obtain ⟨⟨h1,h2⟩,⟨h3,h4⟩,h5⟩:=h;(go_enter Tryz.func253,Tryz.ntmps253);go_wp2;go_ret;exact ⟨Ag Nl,bW⟩
  exact ry):p:=h
theorem Tz(h:p:=by
 clear hT3;exact BH):p:=h
theorem Ty(h:p:=by
 clear hT2;exact BH):p:=h
theorem Tx(h:p:=by
 clear hT1;exact BH):p:=h
theorem j1(h:p:=by
 have hk:=of_decide_eq_true ((MY ky ch tt am fe ys).symm.trans hg);have hk4:=hk.2.2.2.1;have hk5:=hk.2.2.2.2.1;clear hk
 first
 |clear A9N
  have hcode:=Xd (b:=b) (e:=⟨4,ky,ch,tt,am,fe,ys⟩) ho rfl;dsimp only at hcode;have HC0:=lH hcode;clear hcode;have e2:=PE.cell 2 _ rfl;go_upto_region 17 with fail
  cases hh:AI b.chans ch with
  | true =>
   have HC4:=lH (show AQ b ⟨4,ky,ch,tt,am,fe,ys⟩=0 by rw [HC0.out,hh];rfl);(go_wp2_with fail);refine (Ji F _ g B0 b [] 0 ch _ H hh).mono ?_;rintro e w10 ⟨gx,n',c',i,a,hxe,hgF,hi,aid,hget,rfl,bb⟩;have B9r:=trivial;exact JY
  | false =>
   have HC4:=lH (show AQ b ⟨4,ky,ch,tt,am,fe,ys⟩=6 by rw [HC0.out,hh];rfl);(go_wp2_with fail);refine (XC F _ g B0 b [] 0 ch _ H hh).mono ?_;rintro e w10 ⟨u,rfl,PU,nu,hul,H3,W3⟩;rw [show AG true 6 0=6 from rfl] at H3;(have hne:¬ u=ue:=fun e=>by have:=PE.lt;omega);have hne':¬ ue=u:=fun e=>hne e.symm;obtain ⟨PE,nE⟩:=W3.box PE nE;have z4:=PU.fz 4 AF;have z5:=PU.fz 5 AF;have y4:=PU.cell 4 _ rfl;have y5:=PU.cell 5 _ rfl;have FK:=((H3.other nu 4 am).other nu 5 fe).keep (Below.drew (Below.refl _ _));have FW:=((W3.other hul 4 am).other hul 5 fe).trans (Wf.of_below (Below.drew (Below.refl _ _)));have e4:=PE.cell 4 _ rfl;have e5:=PE.cell 5 _ rfl;clear hh W3 H3;exact gK
 |have hcode:=Xd (b:=b) (e:=⟨4,ky,ch,tt,am,fe,ys⟩) (I6 hn ⟨show (4:Int)≠1 by decide,show (4:Int)≠2 by decide,show (4:Int)≠3 by decide,show (4:Int)≠8 by decide⟩) rfl;dsimp only at hcode;have HC0:=lH hcode;exact j4):p:=h
theorem pE(h:p:=by
 refine cW fun w5 P5 b5 => ?_;obtain ⟨ux,hux⟩:∃ u,u=wr.heap.size:=⟨_,rfl⟩;rw [← hux] at P5 ⊢;clear hux
 first
 |clear B9s
  exact rz
 |have hQ5:=hQ.keep b5
  first
  |clear B9t
   have ho5:AC Ht.enc 7 184 w5 w (.slice ao KK.length co) KK:=AC.keep ho b5;have hB5:=AD b5 hB;have hl5:=P5.lt;have hul5:=hQ5.lt;clear c0 c1 c2 c3 c4 c5 c6 ho hQ hB hg1 b5;have hnb:=XB (f:=fun h=>h.key) hnd.out hx.out;dsimp only at hnb;obtain ⟨d0,d1,d2,d3,d4,d5,d6⟩:=P5.c7;by_cases hkx:x0=ky;rotate_left
   ·have e1:(x0 == ky)=false:=Ih;obtain ⟨K2,hE2⟩:∃ l,l=KK ++ [(⟨x0,x1,x2,x3,x4,x5,x6⟩:Ht)]:=⟨_,rfl⟩;have hKK2:Hid (K2=(b.htlcs.take (k+1)).filter (fun h => !decide (h.key=ky))):=SO;have hsl:Hid (hv=D2 (fun h=>decide (h.key=ky)) Ht.zero b.htlcs (k+1)):=eU;have HE2:=lH hE2;have hl2:K2.length=KK.length+1:=Nk;clear hx ht hnb hkx hE2;(go_wp2_with (at_builtin;refine I1 Hz Tryz.underlying51 rfl dC dC (fun _=>rfl) JI rfl _ _ rfl w _ KK rfl (AC.alloc ho5 _) _ (⟨x0,x1,x2,x3,x4,x5,x6⟩:Ht) rfl (BC _ _ _ rfl) oM (Nat.le_trans hB5.size (Aj _ _)) ?_));exact Lz
   have e1:(x0 == ky)=true:=Ih;have hKK2:Hid (KK=(b.htlcs.take (k+1)).filter (fun h => !decide (h.key=ky))):=SP;have hsl:Hid ((⟨x0,x1,x2,x3,x4,x5,x6⟩:Ht)=D2 (fun h=>decide (h.key=ky)) Ht.zero b.htlcs (k+1)):=Eq.symm <| VJ ht.out Ih (fun y hy=>eV);have FQ:Bx (w5.setCells uh 0 [x0,x1,x2,x3,x4,x5,x6]) uh [x0,x1,x2,x3,x4,x5,x6]:=Bx.whole hQ5 rfl;have FX:Ex [uh] w5 (w5.setCells uh 0 [x0,x1,x2,x3,x4,x5,x6]):=N8;have FO:AC Ht.enc 7 184 (w5.setCells uh 0 [x0,x1,x2,x3,x4,x5,x6]) w (.slice ao KK.length co) KK:=AC.kept ho5 FX (fun k hk hm=>hun.out eW);have FB:Below w w (w5.setCells uh 0 [x0,x1,x2,x3,x4,x5,x6]):=hB5.trans (FX.below (fun k hk=>JN) eX);exact lE
  |have ho5:AC Ci.enc 5 186 w5 w (.slice ao KK.length co) KK:=AC.keep ho b5;have hB5:=AD b5 hB;have hl5:=P5.lt;have hul5:=hQ5.lt;clear c0 c1 c2 c3 c4 ho hQ hB hg1 b5;have hnb:=XB (f:=fun h=>h.key) hnd.out hx.out;dsimp only at hnb;obtain ⟨d0,d1,d2,d3,d4⟩:=P5.c5;by_cases hkx:x0=ky
   ·have e1:(x0 == ky)=true:=Ih;have hKK2:Hid (KK=(b.circles.take (k+1)).filter (fun h => !decide (h.key=ky))):=SP;have hsl:Hid ((⟨x0,x1,x2,x3,x4⟩:Ci)=D2 (fun h=>decide (h.key=ky)) Ci.zero b.circles (k+1)):=Eq.symm <| VJ ht.out Ih (fun y hy=>eV);have FQ:Bx (w5.setCells uh 0 [x0,x1,x2,x3,x4]) uh [x0,x1,x2,x3,x4]:=Bx.whole hQ5 rfl;have FX:Ex [uh] w5 (w5.setCells uh 0 [x0,x1,x2,x3,x4]):=N8;have FO:AC Ci.enc 5 186 (w5.setCells uh 0 [x0,x1,x2,x3,x4]) w (.slice ao KK.length co) KK:=AC.kept ho5 FX (fun k hk hm=>hun.out eW);have FB:Below w w (w5.setCells uh 0 [x0,x1,x2,x3,x4]):=hB5.trans (FX.below (fun k hk=>JN) eX);have B0Y:=trivial;exact lE
   have e1:(x0 == ky)=false:=Ih;obtain ⟨K2,hE2⟩:∃ l,l=KK ++ [(⟨x0,x1,x2,x3,x4⟩:Ci)]:=⟨_,rfl⟩;have hKK2:Hid (K2=(b.circles.take (k+1)).filter (fun h => !decide (h.key=ky))):=SO;have hsl:Hid (hv=D2 (fun h=>decide (h.key=ky)) Ci.zero b.circles (k+1)):=eU;have HE2:=lH hE2;have hl2:K2.length=KK.length+1:=Nk;clear hx ht hnb hkx hE2;(go_wp2_with (at_builtin;refine I1 IM Tryz.underlying52 rfl dC dC (fun _=>rfl) I3 rfl _ _ rfl w _ KK rfl (AC.alloc ho5 _) _ (⟨x0,x1,x2,x3,x4⟩:Ci) rfl (BC _ _ _ rfl) oM (Nat.le_trans hB5.size (Aj _ _)) ?_));exact Lz):p:=h
theorem r9(h:p:=by
 have LI:=LsIn.nil;have c4:=PE.cell 4 _ rfl;obtain ⟨hg,LI⟩:=LsIn.add LI (x:=⟨1,0,am⟩) sM Cq uL sM;go_wp2_with fail
 first
 |clear B9u
  refine (DJ _ _ g B0 _ _ 0 1 0 (am) _ H5 hg).mono ?_;have B9v:=trivial;exact lX
 |refine (DK _ _ g B0 _ _ 0 1 0 (am) _ H5 hg).mono ?_;exact lX):p:=h
theorem mE(h:p:=by
 go_wp2;go_round
 case rel=>exact ⟨q - 1,r+d1,Ab,Ab,AA,AA,Hd1,Hd2⟩
 case measure=>simp [intOf]<;>omega):p:=h
theorem PO(h:p:=by
 go_wp2_with fail
 refine (Dr g 10 _ p7).mono ?_;rintro e w2 ⟨rfl,rfl⟩;go_wp2_with fail
 first
 |clear B9w
  refine (Du g 11 _ p7 f7 dC).mono ?_;rintro e w2 ⟨rfl,hw2⟩;have FC:=H5.setCode 11;exact OY
 |refine (Dr g 11 _ p7).mono ?_;rintro e w2 ⟨rfl,rfl⟩;go_wp2_with fail
  first
  |clear B9x
   refine (Du g 12 _ p7 f7 dC).mono ?_;rintro e w2 ⟨rfl,hw2⟩;have FC:=H5.setCode 12;exact OY
  |refine (Dr g 12 _ p7).mono ?_;rintro e w2 ⟨rfl,rfl⟩;go_wp2_with fail
   first
   |clear B88
    refine (Du g 13 _ p7 f7 dC).mono ?_;rintro e w2 ⟨rfl,hw2⟩;have FC:=H5.setCode 13;exact OY
   |refine (Dr g 13 _ p7).mono ?_;rintro e w2 ⟨rfl,rfl⟩;(go_wp2_with fail);(try go_wp2_with fail);go_meet
    case rel=>exact ⟨Fr,by rw [HCD.out];exact ⟨H5,Wf.refl _ _ _⟩⟩):p:=h
theorem bG(h:p:=by
 obtain ⟨a',n',c',e',-,-,Fs⟩:=V.chans
 injection e' with e1 e2 e3
 subst e1;obtain ⟨bb,off,e4,_,hc⟩:=Fs.2.2.2 i a hi
 first
 |clear A4Y
  obtain ⟨rfl,rfl⟩:gx=bb∧0=off:=by simpa using e4
  have:=hc j v hv
  rwa [Nat.zero_add] at this
 |obtain ⟨rfl,rfl⟩:p=bb∧0=off:=by simpa using e4
  have:=hc j v hv
  rwa [Nat.zero_add] at this):p:=h
theorem Sa(h:p:=by
 obtain ⟨F',H5,W5⟩:=hcut;obtain ⟨PE,nE⟩:=W5.box PE nE;obtain ⟨Q,nQ⟩:=W5.box Q nQ;have WX:=W2.trans W5
 first
 |clear A6l
  clear P2 H2x W2 W5 p5 VR HR OR hfz hPl VT VD;have q1c:=Q.cell 1 _ rfl;go_wp2_with fail
  refine (Ji F' _ g B ({b with circles:=L}:Bk) [] 0 q1 _ H5 hi1).mono ?_;have B9y:=trivial;exact lT
 |clear P2 H2x W2 W5 p4 VR HR OR hfz hPl VT VD;have q1c:=Q.cell 1 _ rfl;go_wp2_with fail
  refine (Ji F' _ g B ({b with htlcs:=L}:Bk) [] 0 q1 _ H5 hi1).mono ?_;exact lT):p:=h
theorem qx(h:p:=by
 go_enter Tryz.func149,Tryz.ntmps149
 go_wp2;go_ret;exact ⟨Ag (by rw [hk.out,e0]),SD,Wf.refl _ _ _⟩):p:=h
theorem jE(h:p:=by
 rw [hall.out];dsimp only;rw [← hwS];exact ⟨⟨F2,us,_,_,_,_,_,rfl,OF.le oM,NF.le oM,AC.le CF oM⟩,BF⟩):p:=h
theorem rW(h:p:=by
 rw [ht.out] at hy;rcases List.mem_append.1 hy with hy | hy
 ·exact hall.out y hy
 simp at hy;subst hy;exact r2):p:=h
theorem sA(h:p:=by
 have hUU:Hid ((b.htlcs.map (Bb ch)).sum=U):=A5J;obtain ⟨w1,hw1⟩:∃ w1,w1=wr:=⟨_,rfl⟩;subst hw1;go_wp2
 first
 |clear B9z
  go_loopw [6,7,11,39] (fun o t _ i wr=>∃ k:Nat,k≤q∧i=k∧o = .int .i64 (T+((b.circles.take k).map (CY ch)).sum)∧t = .int .i64 (U+((b.circles.take k).map (Bu ch)).sum)∧Below w1 w1 wr) (fun o t _ i _=>q - (intOf i).toNat)
  case atStart=>exact ⟨0,Nat.zero_le _,rfl,Fu sM,Fu sM,Below.refl _ _⟩
  case round =>
   obtain ⟨k,hk,rfl,rfl,rfl,hB2⟩:=hrel;have B9C:=trivial;exact rd
 |go_loopw [5,9,29] (fun t _ i wr=>∃ k:Nat,k≤q∧i=k∧t = .int .i64 (U+((b.circles.take k).map (Bu ch)).sum)∧Below w1 w1 wr) (fun t _ i _=>q - (intOf i).toNat)
  case atStart=>exact ⟨0,Nat.zero_le _,rfl,Fu sM,Below.refl _ _⟩
  case round =>
   obtain ⟨k,hk,rfl,rfl,hB2⟩:=hrel;have hB3:=AD hB2 hB;have hBw2:=AD hB3 B0;have hbU2:=Qh hP ch k;generalize hU2:((b.circles.take k).map (Bu ch)).sum=U2 at hbU2 ⊢;have hU2:=lH hU2;by_cases hlt:k<q;rotate_left
   ·skip
    have hfi:Hid (U+U2=BU b ch):=dA;go_wp2;go_ret;exact ⟨CD (by rw [← hfi.out]),bW⟩
   have B90:=trivial;exact UJ):p:=h
theorem mW(h:p:=by
 have hn0:nl=0:=A5v;subst hn0;have happ:Aq b ⟨kd,ky,ch,tt,am,fe,ys⟩=(0,b7,Po.zero):=A5w;subst hl
 first
 |clear B4N
  clear hnl PQ;have A8I:=trivial;exact gE
 |obtain ⟨g0,g1,g2,g3,g4,g5⟩:=PQ.c6;have A8F:=trivial;exact JU):p:=h
theorem sB(h:p:=by
 obtain ⟨uh,huh⟩:∃ u,u=w.heap.size+1:=⟨_,rfl⟩;rw [hz0,← huh] at Q1;go_upto_region 2 with fail
 rw [← huh]
 first
 |clear B91
  generalize w0.alloc (.cells #[I0,I0,I0,I0,I0,false,I0] 184)=w1 at Q1 b1 ⊢;have B1:=AD b1 b0;have O1:AC Ht.enc 7 184 w1 w _ []:=AC.keep O0 b1;have P1:=P.keep B1;have hgl:=P.lt;have huw:w.heap.size+1=uh:=AA;clear O0 b0 b1 hz0 huh;have p4:=P1.cell 4 _ rfl;go_wp2;go_loopw [6,9,19] (fun ks _ i wr=>∃ (k:Nat) (v:Value) (KK:List Ht) (hv:Ht),k≤m∧i=k∧ks=v∧AC Ht.enc 7 184 wr w v KK∧Hid (uh∉v.ownBlock.toList)∧Hid (KK=(b.htlcs.take k).filter (fun h => !decide (h.key=ky)))∧KK.length≤k∧Hid (hv=D2 (fun h=>decide (h.key=ky)) Ht.zero b.htlcs k)∧Bx wr uh hv.enc∧Below w w wr) (fun _ _ i _=>m - (intOf i).toNat)
  case atStart=>exact ⟨0,_,[],Ht.zero,Nat.zero_le _,rfl,rfl,O1,SN,rfl,Nat.le_refl _,XM.symm,Q1,B1⟩
  first
  |clear A4y
   case round =>
    have B92:=trivial;exact Lk
  |first
   |clear A4z
    case round =>
     have B93:=trivial;exact fE
   |case round =>
     exact fE
 |generalize w0.alloc (.cells #[I0,I0,I0,I0,I0] 186)=w1 at Q1 b1 ⊢;have B1:=AD b1 b0;have O1:AC Ci.enc 5 186 w1 w _ []:=AC.keep O0 b1;have P1:=P.keep B1;have hgl:=P.lt;have huw:w.heap.size+1=uh:=AA;clear O0 b0 b1 hz0 huh;have p4:=P1.cell 5 _ rfl;go_wp2;go_loopw [6,9,19] (fun ks _ i wr=>∃ (k:Nat) (v:Value) (KK:List Ci) (hv:Ci),k≤q∧i=k∧ks=v∧AC Ci.enc 5 186 wr w v KK∧Hid (uh∉v.ownBlock.toList)∧Hid (KK=(b.circles.take k).filter (fun h => !decide (h.key=ky)))∧KK.length≤k∧Hid (hv=D2 (fun h=>decide (h.key=ky)) Ci.zero b.circles k)∧Bx wr uh hv.enc∧Below w w wr) (fun _ _ i _=>q - (intOf i).toNat)
  case atStart=>exact ⟨0,_,[],Ci.zero,Nat.zero_le _,rfl,rfl,O1,SN,rfl,Nat.le_refl _,XM.symm,Q1,B1⟩
  first
  |clear A40
   case round =>
    have B94:=trivial;exact Lk
  |first
   |clear A41
    case round =>
     have B95:=trivial;exact Lk
   |case round =>
     exact Lk):p:=h
theorem Sq(h:p:=by
 go_wp2;have c0g:=fun g:Grew wr=>g.cell c0;have c1g:=fun g:Grew wr=>g.cell c1;have c2g:=fun g:Grew wr=>g.cell c2
 first
 |clear B96
  exact qL
 |have c3g:=fun g:Grew wr=>g.cell c3;have c4g:=fun g:Grew wr=>g.cell c4
  first
  |clear B97
   have B98:=trivial;exact qK
  |have c5g:=fun g:Grew wr=>g.cell c5;have c6g:=fun g:Grew wr=>g.cell c6;exact qK):p:=h
theorem py(h:p:=by
 go_upto_region 1 with fail
 refine cW fun w0 P0 B0 => ?_;obtain ⟨p0,p1,p2,p3,p4,p5,p6⟩:=P0.c7;go_wp2_with fail
 first
 |clear B5r
  refine (Qs kd ky ch tt am fe ys _).mono ?_;have A6n:=trivial;exact fW
 |refine (QV kd ky ch tt am fe ys _).mono ?_;exact fW):p:=h
theorem fO(h:p:=by
 obtain ⟨w2,hw2⟩:∃ x,x=wc:=⟨_,rfl⟩;subst hw2;have WX:=W0.trans W2;obtain ⟨PE,nE⟩:=W2.box PE nE
 first
 |clear A6h
  clear p0 p1 p2 p3 p4 p5 c1 P0 CK H0 V0 W0 W2;obtain ⟨k1,hk1⟩:∃ k:Int,k=AG q9 9 0:=⟨_,rfl⟩;rw [← hk1] at H5;have HK1:=lH hk1;clear hk1;have c2:=PE.cell 2 _ rfl;go_wp2_with fail
  refine (QC F _ g B b [] _ ch _ H5).mono ?_;rintro e w3 ⟨p1,o1,rfl,T1,H3,W3,Y1⟩;rw [← HA.out] at T1 Y1;obtain ⟨PE,nE⟩:=W3.box PE nE;have WX:=WX.trans W3;clear c2 W3 H5;obtain ⟨k2,hk2⟩:∃ k:Int,k=AG (!AI b.chans ch) 6 k1:=⟨_,rfl⟩;rw [← hk2] at H3;have HK2:=lH hk2;clear hk2;have c3:=PE.cell 3 _ rfl;go_wp2_with fail
  refine (QC F _ g B b [] _ tt _ H3).mono ?_;rintro e w4 ⟨p2,o2,rfl,T2,H4,W4,Y2⟩;rw [← HD.out] at T2 Y2;have T1:=T1.keep W4;obtain ⟨PE,nE⟩:=W4.box PE nE;have WX:=WX.trans W4;clear c3 W4 H3;obtain ⟨k3,hk3⟩:∃ k:Int,k=AG (!AI b.chans tt) 6 k2:=⟨_,rfl⟩;rw [← hk3] at H4;have HK3:=lH hk3;clear hk3;have bA:=MO hb ch;have bD:=MO hb tt;rw [← HA.out] at bA;rw [← HD.out] at bD;obtain ⟨bA1,bA2,bA3,bA4⟩:=bA;obtain ⟨bD1,bD2,bD3,bD4⟩:=bD;unfold Am at bA1 bA2 bA3 bD1 bD2 bD3
  first
  |clear B5K
   obtain ⟨y4,z4,l4,P4,V4,-⟩:=H4.cells;obtain ⟨af,nf,cf,rfl,hnf,-⟩:=VS.form V4.circles;have pf:=P4.cell 5 _ rfl;have B7F:=trivial;exact qp
  |exact ek
 |first
  |clear B32
   clear CA H0 V0 W0 W2 P0 ds0 ds1 ds2 ds3 ds4 ds5 due2 due4 BD HD PD D7 DF D_ue;exact Tq
  |clear CK CI CT H0 V0 W0 W2 P0 ds0 ds1 ds2 ds3 ds4 ds5 due1 due2 due3 BD HD PD D7 DF D_ue
   first
   |clear B3t
    have CDC:c1≠0→cd=c1:=fun h=>by
     have hz':∀ q c,AG q c c1=c1:=fun q c=>Jm q c c1 h;rw [HC.out,← HTW.out,← HC1.out,hz',hz',hz']
    by_cases h0:c1=0;rotate_left
    ·exact mG
    have B99:=trivial;exact fL
   |clear B3x
    have CDC:c1≠0→cd=c1:=fun h=>by
     have hz':∀ q c,AG q c c1=c1:=fun q c=>Jm q c c1 h;rw [HC.out,← HTW.out,← HC1.out,hz',hz',hz',hz']
    have h0:=HCQ.out;exact mG
   |have h0:=HCQ.out;exact fL):p:=h
theorem bI(h:p:=by
 obtain ⟨au,n,cu,rfl,hnc,-,hn,hmx,-⟩:=V.at_;have HN:=lH hn;have hnB:n≤9223372036854775807:=Rq;clear hn
 first
 |clear A4d
  go_enter Tryz.func225,Tryz.ntmps225
  have B7D:=trivial;exact RU
 |go_enter Tryz.func219,Tryz.ntmps219
  exact RU):p:=h
theorem fA(h:p:=by
 obtain ⟨q1,q2,q3⟩:=H5.lt;rcases List.mem_cons.1 hm with e | hm
 ·omega
 have:=(q3 _ hm).2;omega):p:=h
theorem sC(h:p:=by
 have k9:(p:Int)<18446744073709551616:=AA;clear hbig hq hr b1 b2 b3 b4 hgt hp2;go_wp2;go_meet;exact ⟨by rw [← Hq.out],rfl⟩):p:=h
theorem C0A(h:p:=by
 unfold Hid Ak;unfold Ad;rw [decide_eq_false (p:=1≤b.next∧b.next≤1125899906842624) oM];simp):p:=h
theorem pI(h:p:=by
 have C0B:=trivial;exact PL):p:=h
theorem Y4(h:p:=by
 rintro ⟨h1,h2⟩;refine ⟨fun z hz => ?_,h2⟩;rcases List.mem_cons.1 hz with rfl | hz
 ·exact h1
 first
 |clear A2j
  exact NN h1 ((List.pairwise_cons.1 h2).1 z hz)
 |have:=(List.pairwise_cons.1 h2).1 z hz;omega):p:=h
theorem ZL(h:p:=by
 rw [List.any_eq_true] at h;obtain ⟨c,hc,e⟩:=h;have:=List.find?_eq_none.1 hf c hc
 exact absurd e this):p:=h
theorem j6(h:p:=by
 go_wp2;go_roundw
 case rel=>exact ⟨k+1,AA,Ab,FK,FW⟩
 case measure=>simp only [intOf];omega):p:=h
theorem fc(h:p:=by
 have hres:Hid (Cz size few all sf sa amt good=0):=A5L;go_wp2;go_ret;exact ⟨CD FI,rfl⟩):p:=h
theorem Sx(h:p:=by
 refine cW fun w5 P5 b5 => ?_;have hB5:=AD b5 hB;have hBw5:=AD b5 hBw;have PX5:=PX.keep b5
 first
 |clear A7y
  have p3:=PX5.cell 3 _ rfl;clear c0 c1 c2 c3 c4 c5 c6 hB hBw b5 PX;obtain ⟨x0,x1,x2,x3,x4,x5,x6⟩:=P5.c7;by_cases hk0:k=0
  first
  |clear C0C
   ·have hK:decide (0<k)=false:=decide_eq_false oM;cases hb0:Et ci
    ·have B9E:=trivial;exact rg
    have B9R:=trivial;exact rk
   have C0D:=trivial;exact S8
  |·have hK:decide (0<k)=false:=decide_eq_false oM;by_cases hc0:ci<1
    ·have e0:decide (ci<1)=true:=decide_eq_true hc0;exact iW
    have e0:decide (ci<1)=false:=decide_eq_false hc0;by_cases hc1:99<ci
    ·have e1:decide (99<ci)=true:=decide_eq_true hc1;exact iW
    have e1:decide (99<ci)=false:=decide_eq_false hc1;cases hb2:AH cl
    ·have hr2:¬ (0≤cl∧cl≤1125899906842624):=of_decide_eq_false hb2;have AL:=fun w=>BP cl w;simp only [show AH cl=false from hb2] at AL;exact kw
    have hr2:0≤cl∧cl≤1125899906842624:=of_decide_eq_true hb2;have AL:=fun w=>BP cl w;simp only [show AH cl=true from hb2] at AL;clear hb2;cases hb3:AH cr
    ·have hr3:¬ (0≤cr∧cr≤1125899906842624):=of_decide_eq_false hb3;have AR:=fun w=>BP cr w;simp only [show AH cr=false from hb3] at AR;exact kx
    have hr3:0≤cr∧cr≤1125899906842624:=of_decide_eq_true hb3;have AR:=fun w=>BP cr w;simp only [show AH cr=true from hb3] at AR;clear hb3;cases hb4:AH cb
    ·have hr4:¬ (0≤cb∧cb≤1125899906842624):=of_decide_eq_false hb4;have AB:=fun w=>BP cb w;simp only [show AH cb=false from hb4] at AB;clear hb4;exact Sw
    have hr4:0≤cb∧cb≤1125899906842624:=of_decide_eq_true hb4;have AB:=fun w=>BP cb w;simp only [show AH cb=true from hb4] at AB;clear hb4;by_cases hc5:cp<0
    ·have e5:decide (cp<0)=true:=decide_eq_true hc5;exact Sw
    have e5:decide (cp<0)=false:=decide_eq_false hc5;by_cases hc6:1000000<cp
    ·have e6:decide (1000000<cp)=true:=decide_eq_true hc6;exact Sw
    have e6:decide (1000000<cp)=false:=decide_eq_false hc6;cases hb7:BI cs
    ·have hr7:¬ (-100≤cs∧cs≤100):=of_decide_eq_false hb7;have SC:=fun w=>IT cs w;simp only [show BI cs=false from hb7] at SC;clear hb7;have C0E:=trivial;exact Gu
    have hr7 : -100≤cs∧cs≤100:=of_decide_eq_true hb7;have SC:=fun w=>IT cs w;simp only [show BI cs=true from hb7] at SC;clear hb7;exact jS
   exact S8
 |have V5:=V0.keep hB5
  first
  |clear C0F
   have CV:=Pu _ _ _ b x.inn x.out w5 V5;clear c0 c1 c2 c3 c4 c5 c6 hB hBw b5 PX p4;obtain ⟨p0,p1,p2,p3,p4,p5⟩:=PX5.c6;obtain ⟨x0,x1,x2,x3,x4,x5,x6⟩:=P5.c7;have B4y:=trivial;exact pK
  |have CV:=Pu _ _ _ b x.frm x.tw w5 V5;clear c0 c1 c2 c3 c4 hB hBw b5 PX p4;obtain ⟨p0,p1,p2,p3,p4,p5⟩:=PX5.c6;obtain ⟨x0,x1,x2,x3,x4⟩:=P5.c5;exact pK):p:=h
theorem sD(h:p:=by
 obtain ⟨p0,p1,p2,p3,p4,p5⟩:=P.c6;go_enter Tryz.func174,Tryz.ntmps174
 go_wp2_with fail
 refine CA.mono ?_
 first
 |clear C0G
  rintro e w1 ⟨rfl,b1⟩;have P1:=P.keep b1;clear p0 p1 p2 p3 p4 p5 P CA;have p3:=P1.cell 3 _ rfl;go_wp2;go_ret;exact ⟨gx,n,c,i,a,rfl,hgF,H2.out,h3,H4.out,by simp [Act.put],b1⟩
 |rintro e w1 ⟨rfl,b1⟩;have H1:=H.keep b1;have W1:Wf g F F w w1:=Wf.of_below b1;clear p0 p1 p2 p3 p4 p5 P CA;go_wp2_with fail
  refine (D5 F _ g B b ls kd 6 true w1 H1).mono ?_;rintro e w2 ⟨rfl,H2,W2⟩;have hz:=b1.size;have W3:=W1.trans W2;have hs:=W3.1.size;have hfr:=H2.fresh;have P3:=bN w2 [I0,I0,I0,I0,I0,I0,I0] 182;have b3:=bA w2 [I0,I0,I0,I0,I0,I0,I0] 182;clear W1 W2 H1 b1 hz;go_wp2;go_ret;exact ⟨w2,rfl,P3,hfr,hs,H2.keep b3,W3.trans (Wf.of_below b3)⟩):p:=h
theorem qH(h:p:=by
 go_upto_region 5 with fail
 refine cW fun w5 P5 b5 => ?_;obtain ⟨q0,q1,q2⟩:=P5.c3;have z45:=b5.size
 first
 |clear C0H
  have CV:=yN k 0 0 (.slice none 0 0) ob w5 ⟨_,_,_,rfl⟩;clear hs hgo ho4 c4' f4' P4;exact UM
 |by_cases h1:sq=(k:Int);rotate_left
  ·exact qF
  subst h1;by_cases h2:Hy pre≤ep;rotate_left
  ·exact qG
  have hnx:Hid (BQ d=(pre ++ [⟨k,ep,bd⟩]) ++ DM d (k+1) (Hy (pre ++ [⟨k,ep,bd⟩])) (n - (k+1))):=by
   unfold Hid;rw [hgo.out,show n - k=(n - (k+1))+1 by omega,Qo hs rfl h2,A0g];simp
  have CV:=A1x k ep (.slice a4 bd.length c4) bd ob w0 pre us out w5 (AC.le (O4.keep b5) oM) (fun b hb hm=>by have:=(AC.blk O4 b hb).1;have:=(hl3 b hm).2;omega) uI (BN b5 c4') (by rw [JB b5 oM];exact f4') oM oM (ho4.keep b5) HPL.out oM (by
   rcases Nat.eq_zero_or_pos k with h0 | h0
   ·exact .inl h0
   obtain ⟨l,hl1,hl2⟩:=YI HPL.out h0
   exact .inr ⟨l,hl1,AA⟩)
  have x5:Ex F w0 w5:=HX4.out.trans (Ex.of_below b5 F);have HX5:=lH x5;clear hs hgo x5 O4 ho4 c4' f4' P4 FIN;go_wp2_with (go_at_call 224;refine CV.mono ?_;rintro e w6 ⟨rfl,out6,c6,f6,o6,F6,x6,h6⟩)
  obtain ⟨R,hR⟩:∃ l,l=pre ++ [(⟨k,ep,bd⟩:Sc)]:=⟨_,rfl⟩;have hRl:R.length=k+1:=by rw [hR,List.length_append,HPL.out];rfl
  rw [← hR] at o6 hnx;have HRL:=lH hRl;clear hR hRl;go_roundw
  case rel=>exact ⟨k+1,R,_,out6,F ++ F6,Ab,AA,c6,f6,o6,HRL.out,hnx,(HX5.out.more (fun k hk=>List.mem_append_left _ hk)).trans (x6.more (fun k hk=>List.mem_append_right _ hk)),fun b hb=>by rcases List.mem_append.1 hb with h | h;exact HF.out b h;exact h6 b h⟩
  case measure=>simp only [intOf];omega):p:=h
theorem T0(h:p:=by
 rintro e w9 ⟨rfl,H9,W9⟩;obtain ⟨PE,nE⟩:=W9.box PE nE;have H5:=H9;have WX:=WX.trans W9
 first
 |clear B41
  clear H9 W9 c3 c4;have LI:=LsIn.nil
  first
  |clear C0I
   have c2:=PE.cell 2 _ rfl;obtain ⟨hg,LI⟩:=LsIn.add LI (x:=⟨6,ch,-(am+fe)⟩) sM Cq uL sM;(go_wp2_with fail);refine (DK _ _ g B _ _ 0 6 ch (-(am+fe)) _ H5 hg).mono ?_;exact Ja
  |have C0J:=trivial;exact Kb
 |clear H9 W9 c2
  first
  |clear C0K
   (have dget2:AM (AU b.chans ch (AO (-(am+fe)) 0)) tt=D:=by rw [Ju (ch:=ch) (f:=(AO (-(am+fe)) 0)) (fun _=>rfl) hc2,if_neg (fun e=>hct e.symm),← HDd.out]);(have hc2':AI (AU b.chans ch (AO (-(am+fe)) 0)) tt=true:=by rw [Jw (ch:=ch) (f:=(AO (-(am+fe)) 0)) (fun _=>rfl)];exact hc2);have C0L:=trivial;exact Kb
  |(have dget2:AM (AU b.chans ch (AO 0 (-(am+fv)))) tt=D:=by rw [Ju (ch:=ch) (f:=(AO 0 (-(am+fv)))) (fun _=>rfl) hc2,if_neg (fun e=>hct e.symm),← HDd.out]);(have hc2':AI (AU b.chans ch (AO 0 (-(am+fv)))) tt=true:=by rw [Jw (ch:=ch) (f:=(AO 0 (-(am+fv)))) (fun _=>rfl)];exact hc2);have C0M:=trivial;exact Kb):p:=h
theorem Yu(h:p:=by
 have hc:=h2 rfl;obtain rfl:sl=0:=AA;subst hc;obtain rfl:ys = []:=List.eq_nil_of_length_eq_zero hyl
 first
 |clear A2Y
  exact wpList_append_own_none hgd s x _ ho B E i0 sz hS hi v _ _ hs hown hx (K v w DW (Below.refl _ _) (World.grownBy.refl _ _))
 |have hrun:=run_append_owned_none (P:=Tryz.prog) (w:=w) B S o.type E i0 sz hS hi v xs.length (xs.flatMap enc) hown;unfold Oper.wp;simp [execOp,ho,resolve,invoke,builtin,hs,hx,hrun,Result.andThen];exact Kn v w DW (Below.refl _ _) (World.grownBy.refl _ _)):p:=h
theorem Y3(h:p:=by
 intro y hy;rcases List.mem_append.1 hy with hy | hy
 ·exact h.okB y hy
 simp at hy;subst hy;exact hkB):p:=h
theorem Yz(h:p:=by
 intro y hy;rcases List.mem_append.1 hy with hy | hy
 ·exact h.ok y hy
 simp at hy;subst hy;exact hok):p:=h
theorem TB(h:p:=by
 go_upto_region 1 with fail
 refine cW fun w1 PX BX => ?_;have VX:=V.keep BX;have u0:=PX.cell 0 _ rfl
 first
 |clear B44
  go_upto_region 2 with fail
  clear u0
  first
  |clear A8x
   have CH:=fun (w':World) (V':HbV w' w' (.slice a1 n1 k1) (.slice a2 n2 k2) (.slice a3 n3 k3) (.slice a4 n4 k4) (.slice a5 n5 k5) (.slice a6 n6 k6) (.slice a7 n7 k7) (.slice a8 n8 k8) hub)=>A0p _ _ _ _ _ _ _ _ hub w' V' hB.1;have CN:=fun (w':World) (V':DkV w' w' (.slice a9 n9 k9) (.slice aa na ka) dk)=>Xr _ _ dk w' V';have B23:=trivial;exact nm
  |have CH:=fun (w':World) (V':HbV w' w' (.slice a1 n1 k1) (.slice a2 n2 k2) (.slice a3 n3 k3) (.slice a4 n4 k4) (.slice a5 n5 k5) (.slice a6 n6 k6) (.slice a7 n7 k7) (.slice a8 n8 k8) hub)=>A1I _ _ _ _ _ _ _ _ hub w' V' hB.1;have CN:=fun (w':World) (V':DkV w' w' (.slice a9 n9 k9) (.slice aa na ka) dk)=>We _ _ dk w' V';exact nm
 |go_upto_region 3 with fail
  clear u0
  first
  |clear A8y
   have CH:=fun (w':World) (V':HbV w' w' (.slice a1 n1 k1) (.slice a2 n2 k2) (.slice a3 n3 k3) (.slice a4 n4 k4) (.slice a5 n5 k5) (.slice a6 n6 k6) (.slice a7 n7 k7) (.slice a8 n8 k8) hub)=>A0T _ _ _ _ _ _ _ _ hub w' V';have CN:=fun (w':World) (V':DkV w' w' (.slice a9 n9 k9) (.slice aa na ka) dk)=>QT _ _ dk w' V';exact fm
  |have CH:=fun (w':World) (V':HbV w' w' (.slice a1 n1 k1) (.slice a2 n2 k2) (.slice a3 n3 k3) (.slice a4 n4 k4) (.slice a5 n5 k5) (.slice a6 n6 k6) (.slice a7 n7 k7) (.slice a8 n8 k8) hub)=>yb _ _ _ _ _ _ _ _ hub w' V';have CN:=fun (w':World) (V':DkV w' w' (.slice a9 n9 k9) (.slice aa na ka) dk)=>Mn _ _ dk w' V';exact fm):p:=h
theorem pm(h:p:=by
 have own:=zx hown;go_wp2;go_ret;exact ⟨⟨_,rfl,by rw [hx0,yE];exact own⟩,hB1⟩):p:=h
theorem qo(h:p:=by
 go_upto_region 1 with fail
 refine cW fun X0 P0 B0 => ?_;obtain ⟨p0,p1,p2⟩:=P0.c3;go_wp2_with fail
 first
 |clear B7E
  refine (YQ sq ep _ body _ (V.keep B0)).mono ?_;rintro e w1 ⟨rfl,b1⟩;rw [hok.out];have P1:=P0.keep b1;have B1:=AD b1 B0;have hP1:=P1.lt;have q0:=P1.cell 0 _ rfl;have O1:=AK.lit1 w1 74 74 rfl;have O1v:=O1.vs;clear P0 B0 p0 p1 p2 b1;go_wp2_with fail
  refine (Hc _ [74] sq 3 _ O1v sM oM oM oM).mono ?_;rintro e w2 ⟨⟨v2,rfl,O2⟩,b2⟩;have b2':Below w1 w1 w2:=AD b2 (bW);have P2:=P1.keep b2';have B2:=AD b2' B1;have q1:=P2.cell 1 _ rfl;obtain ⟨a2,c2,rfl,-⟩:=AK.form O2;have O2v:=O2.vs;clear P1 B1 q0 O1 O1v b2 b2' O2 hP1;go_wp2_with fail
  refine (Hc _ ([74] ++ be sq 3) ep 3 _ O2v (by rw [List.length_append,D1];decide) oM oM oM).mono ?_;rintro e w3 ⟨⟨v3,rfl,O3⟩,b3⟩;have P3:=P2.keep b3;have B3:=AD b3 B2;have q2:=P3.cell 2 _ rfl;obtain ⟨a3,c3,rfl,-⟩:=AK.form O3;have O3v:=O3.vs;clear P2 B2 q1 b3 O3 O2v;go_wp2_with fail
  refine (Hc _ ([74] ++ be sq 3 ++ be ep 3) n 1 _ O3v (by rw [List.length_append,List.length_append,D1,D1];decide) oM oM oM).mono ?_;rintro e w4 ⟨⟨v4,rfl,O4⟩,b4⟩;have P4:=P3.keep b4;have B4:=AD b4 B3;have r2:=P4.cell 2 _ rfl;have z34:=b4.size;rw [uG n oM] at O4;obtain ⟨H,hH⟩:∃ H,H = [74] ++ be sq 3 ++ be ep 3 ++ [UInt8.ofNat n]:=⟨_,rfl⟩;have hHl:H.length=8:=by rw [hH];simp [D1]
  rw [← hH] at O4;obtain ⟨a4,c4,rfl,-⟩:=AK.form O4;have HH:=lH hH;have z03:=B3.size;have Vb:=(V.keepB B4 (Nat.le_refl _)).mono B4.size
  have O4':AK w4 w (.slice a4 8 c4) H:=by
   (have:=AC.le (B':=w.heap.size) O4 z03);rwa [hHl] at this
  have O4x:AK w4 w3 (.slice a4 8 c4) H:=by
   (have:=O4);rwa [hHl] at this
  have hP3:w.heap.size<w3.heap.size:=P3.lt;clear hH P3 B3 q2 b4 O3v O4;go_wp2_with (at_builtin;refine Da Dd Tryz.underlying161 rfl dC dC De Ed rfl _ _ rfl w3 _ H rfl O4x _ body rfl Vb oM Cb z34 ?_)
  intro v5 w5 O5 b5 g5;have P5:=P4.keepL b5 hP3;have B5:=B4.trans (b5.mono z03);have s0:=P5.cell 0 _ rfl;have z35:w3.heap.size≤w5.heap.size:=Nat.le_trans z34 b5.size;have O5l:(H ++ body).length=8+n:=by rw [List.length_append,hHl,HN.out]
  obtain ⟨M,hM⟩:∃ M,M=H ++ body:=⟨_,rfl⟩;rw [← hM] at O5 O5l;have HMM:=lH hM;obtain ⟨a5,c5,rfl,-⟩:=AK.form O5;rw [O5l] at O5 ⊢;have HO5l:=lH O5l;have B6C:=trivial;exact qI
 |refine (XQ sq ep _ body _ (V.keep B0)).mono ?_;rintro e w1 ⟨rfl,b1⟩;rw [hok.out];have P1:=P0.keep b1;have B1:=AD b1 B0;have hP1:=P1.lt;obtain ⟨q0,q1⟩:=P1.c2;clear P0 B0 p0 p1 p2 b1;obtain ⟨G,hG⟩:∃ G,G = [74] ++ be sq 3:=⟨_,rfl⟩;have hGl:G.length≤10:=by rw [hG];simp [D1]
  have HG:=lH hG;clear hG;obtain ⟨G2,hG2⟩:∃ G2,G2=G ++ be ep 3:=⟨_,rfl⟩;have hG2l:G2.length≤14:=by rw [hG2,List.length_append,D1];omega
  have HG2:=lH hG2;clear hG2;have new0:=World.new_ne w1 ⟨w,0,none⟩ q0;have new1:=World.new_ne w1 ⟨w,1,none⟩ q1;go_upto_region 3 with fail
  go_region_held3 (fun w'=>w'.cell? ⟨w,0,none⟩=.some sq∧w'.cell? ⟨w,1,none⟩=.some ep) (go_keep) (first
   | (go_at_call 271;(fail_if_success (have ht:=O2));refine (I5 w1 _ [74] sq 3 _ (AK.lit1 w1.drew 74 74 rfl) (by simp;done) (by simp;done) oM oM).mono ?_;rintro e w2 ⟨⟨v2,rfl,O2⟩,b2⟩;rw [← HG.out] at O2;obtain ⟨a2,c2,rfl,-⟩:=AK.form O2;have b2':Below w1 w1 w2:=((Ae (Below.drew (Below.refl _ w1)) _).trans b2);have P2:=P1.keepL b2' hP1;have q0:=P2.cell 0 _ rfl;have q1:=P2.cell 1 _ rfl)
   | (go_at_call 271;refine (I5 w1 _ G ep 3 _ O2 (by have:=b2'.size;exact this) oM oM oM).mono ?_;rintro e w3 ⟨⟨v3,rfl,O3⟩,b3⟩;rw [← HG2.out] at O3;obtain ⟨a3,c3,rfl,-⟩:=AK.form O3;have P3:=P2.keepL b3 hP1;have q0:=P3.cell 0 _ rfl;have q1:=P3.cell 1 _ rfl))
  have B3:Below w w w3:=(B1.trans (b2'.mono B1.size)).trans (b3.mono B1.size);have z13:w1.heap.size≤w3.heap.size:=Nat.le_trans b2'.size b3.size;have r2:=P3.cell 2 _ rfl;have Vb:=(V.keepB B3 (Nat.le_refl _)).mono B3.size;obtain ⟨lb,hlb⟩:∃ lb:UInt8,lb=UInt8.ofNat n:=⟨_,rfl⟩;have hlv:((n:Int) % 256)=(lb.toNat:Int):=by rw [hlb,UInt8.toNat_ofNat'];omega
  have HLB:=lH hlb;have hP3:=P3.lt;clear hlb P1 P2 q0 q1 O2 b2 b2' b3 new0 new1;obtain ⟨G3,hG3⟩:∃ G3,G3=G2 ++ [lb]:=⟨_,rfl⟩;have hG3l:G3.length≤15:=by rw [hG3,List.length_append,List.length_singleton];omega
  have HG3:=lH hG3;clear hG3;obtain ⟨G4,hG4⟩:∃ G4,G4=G3 ++ body:=⟨_,rfl⟩;have HG4:=lH hG4;clear hG4;go_upto_region 4 with fail
  go_cut [4] (fun v wq=>AK wq w1 v G4∧Below w w wq∧Bx wq w [sq,ep, .slice a n c]∧w1.heap.size≤wq.heap.size)
  case first =>
   cases a with
   | none =>
    have hv:=V;obtain ⟨a',n',c',e,hnc,hnil,F⟩:=hv
    injection e with e1 e2 e3
    have hc0:=hnil e1.symm;have hFl:=F.1;have hbn:body = []:=List.eq_nil_of_length_eq_zero oM;(have hG43:Hid (G4=G3):=by unfold Hid;rw [HG4.out,hbn,List.append_nil]);have hn0:Hid (n=0):=Ia;have hcc:Hid (c=0):=Ia;clear e1 e2 e3 hnil F hFl hnc hbn hc0
    go_region_law (first
     | ((fail_if_success (have ht:=O4));refine XL rfl _ _ rfl w1 _ G2 rfl (AC.alloc (w:=w3.drew) O3 _) _ lb rfl dM oM (Nat.le_trans z13 (Aj w3.drew _)) ?_;intro v4 w4 O4 b4;rw [← HG3.out] at O4;obtain ⟨a4,c4,rfl,-⟩:=AK.form O4;have P4:=(P3.drew.alloc _).keepL b4 hP1;have r2:=P4.cell 2 _ rfl;have B4:Below w w w4:=B3.trans (((Ae (Below.drew (Below.refl _ w3)) _).mono B3.size).trans (b4.mono B1.size));have V4:=(V.keepB B4 (Nat.le_refl _)).mono B4.size;have z14:w1.heap.size≤w4.heap.size:=Nat.le_trans (Nat.le_trans z13 (Aj w3.drew _)) b4.size)
     | (refine t8 rfl _ _ rfl w1 _ G3 rfl O4 (by show Value.slice none n c=_;rw [hn0.out,hcc.out]) ?_;have O5:=O4;have P5:=P4;have B5:=B4))
    all_goals
     go_wp2_with fail
     go_meet
     case rel=>exact ⟨by rw [hG43.out];exact O5,B5,P5,z14⟩
   | some ad =>
    go_region_law (first
     | ((fail_if_success (have ht:=O4));refine XL rfl _ _ rfl w1 _ G2 rfl (AC.alloc (w:=w3.drew) O3 _) _ lb rfl dM oM (Nat.le_trans z13 (Aj w3.drew _)) ?_;intro v4 w4 O4 b4;rw [← HG3.out] at O4;obtain ⟨a4,c4,rfl,-⟩:=AK.form O4;have P4:=(P3.drew.alloc _).keepL b4 hP1;have r2:=P4.cell 2 _ rfl;have B4:Below w w w4:=B3.trans (((Ae (Below.drew (Below.refl _ w3)) _).mono B3.size).trans (b4.mono B1.size));have V4:=(V.keepB B4 (Nat.le_refl _)).mono B4.size;have z14:w1.heap.size≤w4.heap.size:=Nat.le_trans (Nat.le_trans z13 (Aj w3.drew _)) b4.size)
     | (refine XE rfl _ _ rfl w1 _ G3 rfl O4 ad n c body rfl V4 oM Cb z14 ?_;intro v5 w5 O5 b5;rw [← HG4.out] at O5;obtain ⟨a5,c5,rfl,-⟩:=AK.form O5;have P5:=P4.keepL b5 hP1;have B5:=B4.trans (b5.mono B1.size)))
    all_goals
     go_wp2_with fail
     go_meet
     case rel=>exact ⟨O5,B5,P5,Nat.le_trans z14 b5.size⟩
  case rest =>
   obtain ⟨O5,B5,P5,z15⟩:=hcut;(have hG4l:G4.length=8+n:=by rw [HG4.out,HG3.out,HG2.out,HG.out];simp only [List.length_append,D1,List.length_cons,List.length_nil,HN.out]);obtain ⟨a5,c5,rfl,-⟩:=AK.form O5;rw [hG4l] at O5 ⊢;have HG4l:=lH hG4l;exact qI):p:=h
theorem iG(h:p:=by
 have H5:=H5.keep b6;have WX:=WX.trans (Wf.of_below b6);have PE:=PE.keep b6;have Q:=Q.keep b6
 first
 |clear A7m
  clear b6 q2c;have aok:=H5.oks a (List.mem_of_getElem? ai);have dok:=H5.oks d (List.mem_of_getElem? di);exact gk
 |clear b6 q1c;have q2c:=Q.cell 2 _ rfl;go_wp2_with fail
  first
  |clear B9y
   refine (Ji F' _ g B ({b with circles:=L}:Bk) [] 0 q2 _ H5 hi2).mono ?_;have B7Z:=trivial;exact iF
  |refine (Ji F' _ g B ({b with htlcs:=L}:Bk) [] 0 q2 _ H5 hi2).mono ?_;exact iF):p:=h
theorem lx(h:p:=by
 have H0:=hb;obtain ⟨hc0,hf0,hs0,hz0⟩:=AS H0;have B1:Below w w w1:=AD hb (bW);clear hb
 first
 |clear B1B
  exact ri
 |first
  |clear B17
   exact L7
  |go_wp2_with fail
   first
   |clear A3E
    refine (xW _ _ d.dirty _ (V.dirty.keep (bW)) (V'.dirty.keep (bW))).mono ?_;rintro e w2 ⟨rfl,hb⟩;exact TO
   |clear A3F
    refine (uN _ _ b.htlcs _ (V.htlcs.keep (bW)) (V'.htlcs.keep (bW))).mono ?_;have C0N:=trivial;exact Tk
   |clear A3G
    refine (xQ _ _ _ _ _ _ h.book _ (V.book.keep (bW)) (V'.book.keep (bW))).mono ?_;have C0O:=trivial;exact Tk
   |refine (WI _ _ _ _ W.disk _ (V.disk.keep (bW)) (V'.disk.keep (bW))).mono ?_;exact Tk):p:=h
theorem mr(h:p:=by
 refine ⟨⟨[], .slice none 0 0,Ru,de⟩,?_⟩;have hlb:=HLB.out;subst hlb;exact bW):p:=h
theorem qu(h:p:=by
 go_wp2;go_end0
 obtain ⟨F',h1,h2⟩:=HL;exact ⟨rfl,F',by rw [hi.out];exact h1,h2⟩):p:=h
theorem ZM(h:p:=by
 rintro (h | h | h)
 ·exact .inr (.inl h)
 ·exact .inl h
 exact .inr (.inr h)):p:=h
theorem aU(h:p:=by
 intro v' w' own hb hg;go_wp2;go_ret;exact ⟨⟨_,v',rfl,RwO.mk' own hok⟩,hb⟩):p:=h
theorem aV(h:p:=by
 intro z hz;rcases List.mem_cons.1 hz with rfl | hz
 ·omega
 exact ih z hz):p:=h
theorem qd(h:p:=by
 have hBh:=AD hbh hBw6;exact BH):p:=h
theorem aj(h:p:=by
 rw [List.any_eq_false] at h;rw [List.all_eq_true];intro y hy;simpa using h y hy):p:=h
theorem sE(h:p:=by
 clear hq k8 k1 k2 k3 hn;exact GM):p:=h
theorem sF(h:p:=by
 clear hq3;go_wp2;go_ret;exact ⟨A56,AD bx BX⟩):p:=h
theorem ie(h:p:=by
 clear hx ht h1 h2;exact GM):p:=h
theorem q8(h:p:=by
 clear hi;exact BH):p:=h
theorem ic(h:p:=by
 clear hx ht h1;exact GM):p:=h
theorem ba(h:p:=by
 go_enter Tryz.func260,Tryz.ntmps260
 go_wp2;go_end0
 exact EI):p:=h
theorem sG(h:p:=by
 clear hq k1 k2 hn;exact GM):p:=h
theorem bK(h:p:=by
 clear hx ht hxy;exact Re):p:=h
theorem sH(h:p:=by
 clear hq k1 hn;exact GM):p:=h
theorem C0P(h:p:=by
 exfalso;apply hl;apply List.length_eq_zero_iff.1;omega):p:=h
theorem Zh(h:p:=by
 obtain ⟨F0,h0,e,hd,hi⟩:=h;subst e;intro k hk;exact h0.lt k hk):p:=h
theorem BH(h:p:=by
 go_wp2;go_ret;exact ⟨Ag If,bW⟩):p:=h
theorem Bi(h:p:=by
 intro w hSw;(try dsimp only at hSw);go_simp):p:=h
theorem Dx(h:p:=by
 go_wp2;go_ret;exact rK):p:=h
theorem LQ(h:p:=by
 obtain ⟨k,hk,rfl,hown,hB⟩:=hrel;by_cases hlt:k<len;rotate_left
 ·exact B0E
 first
 |clear A2a
  have C0Q:=trivial;exact sI
 |clear A2c
  have C0R:=trivial;exact sJ
 |clear A2e
  have C0S:=trivial;exact sK
 |clear A2g
  have C0T:=trivial;exact sL
 |obtain ⟨g,off,x0,x1,x2,rfl,hg,c0,c1,c2,o0,o1,o2,hx,ht⟩:=GE.cells (hs.keep hB) hlt;clear o0 o1 o2 hown1;go_wp2_with fail
  refine (A2F _ _ _ _).mono ?_;rintro e w2 ⟨rfl,hb2⟩
  have hown2:IJ w2 w (some ⟨w,0,none⟩) len len xs k:=by
   exact MH
  have hB2:Below w w w2:=AD hb2 hB;obtain ⟨g',y0,y1,y2,rest,e',hg',hr,ho,d0,d1,d2,hfz⟩:=hown2.open_ Hxl.out hlt;have B50:=trivial;exact Tj):p:=h
theorem Dm(h:p:=by
 go_wp2_with fail
 refine sO hK fun hHeld => ?_;clear hK K
 first
 |clear A7D
  refine tK 17 ?_;refine tK 18 ?_;have C0U:=trivial;exact FY
 |clear A7I
  refine tH 16 fun K hK => ?_;go_simp
  first
  |clear C0V
   (go_at_call 54);refine (Uh _ _ _ tk _ (Qf EO) (VX.took.keep Bc3)).mono ?_;have C0W:=trivial;exact gC
  |(go_at_call 45);refine (xJ _ _ tk _ _ (VX.took.keep Bc3) (Qf EO)).mono ?_;exact gC
 |clear A7J
  refine tK 7 ?_;refine tK 8 ?_
  first
  |clear C0X
   first
   |clear B25
    exact Sr
   |refine tK 9 ?_;refine tK 10 ?_;refine tK 11 ?_;refine tK 12 ?_;refine tK 14 ?_;refine tK 15 ?_;refine tH 13 fun K hK => ?_;go_simp;(go_at_call 55);refine (Xv _ _ hub.log.disk _ (VX.hub.log.disk.keep Bc2)).mono ?_;have C0V:=trivial;exact gI
  |first
   |clear B27
    exact Sr
   |refine tK 9 ?_;have B9H:=trivial;exact MF
 |clear A7N
  refine tK 3 ?_
  first
  |clear A7F
   first
   |clear B24
    exact gz
   |refine tK 4 ?_;refine tK 5 ?_;refine tH 6 fun K hK => ?_;go_simp;(go_at_call 53);have C0X:=trivial;exact gJ
  |first
   |clear B26
    exact gz
   |refine tK 4 ?_;refine tK 5 ?_;refine tH 6 fun K hK => ?_;go_simp;(go_at_call 44);exact gJ
 |clear A9p
  refine tK 39 ?_;refine tK 40 ?_;refine tK 41 ?_;refine tK 44 ?_;refine tH 45 fun K hK => ?_;go_simp;go_at_call 149
  first
  |clear B6W
   refine (Dr g 11 _ Zc2).mono ?_;rintro e w2 ⟨rfl,rfl⟩;have C0Y:=trivial;exact mZ
  |refine (Du g 11 _ Zc2 Fc2 dC).mono ?_;rintro e w2 ⟨rfl,hw2⟩;have FC:=Hc2.setCode 11;have PS:=Pc2.set1 7 (.int .i64 11) AF;have QS0:=Ec20.otherC g 7 (.int .i64 11) hneq;have C0Z:=trivial;exact Th
 |clear B6P
  refine tK 8 ?_;refine tK 9 ?_
  first
  |clear B5Q
   have B1c:=trivial;exact TE
  |exact MF
 |clear C0a
  refine tK 18 ?_;refine tK 19 ?_;refine tK 20 ?_;have B9A:=trivial;exact To
 |clear B1z
  exact mh
 |clear B12
  exact jO
 |clear B2S
  refine tH 5 fun K hK => ?_;refine Dc Js Tryz.underlying58 rfl dC dC (fun _=>rfl) LJ rfl _ _ rfl w9 _ h.sent rfl (AC.le QO.own (by first | exact Nat.le_refl _ | exact BD.size)) _ h.wait rfl (VX.wait.keep Bc1) oM oM (by first | exact Bc1.size | omega) ?_;intro v10 w10 o10 b10 g10;have B10:Below w9 w9 w10:=Below.trans Bc1 b10;have E10:=PX.keep B10;have f12:=E10.cell 12 _ rfl;have f13:=E10.cell 13 _ rfl;obtain ⟨a10,k10,hv,-⟩:=AC.of (ok:=fun _=>True) o10 (fun _ _=>trivial);have B4t:=trivial;exact pF
 |clear C0b
  refine tK 13 ?_;refine tK 14 ?_
  first
  |clear B30
   have B3R:=trivial;exact kJ
  |refine tK 15 ?_;refine tK 16 ?_;refine tK 17 ?_;refine tK 18 ?_;refine tK 19 ?_;refine tK 20 ?_;refine tK 21 ?_;have B89:=trivial;exact To
 |clear C0c
  refine tK 11 ?_;have C0d:=trivial;exact KX
 |clear B6X
  refine tK 21 ?_;refine tH 22 fun K hK => ?_;go_simp;go_at_call 149
  first
  |clear A6H
   refine (Dr g 6 _ Zc2).mono ?_;have C0e:=trivial;exact GN
  |refine (Du g 6 _ Zc2 Fc2 dC).mono ?_;rintro e w2 ⟨rfl,hw2⟩;have FC:=Hc2.setCode 6;have PS:=Pc2.set1 7 (.int .i64 6) AF;have QS0:=Ec20.otherC g 7 (.int .i64 6) hneq;have B1n:=trivial;exact Sl
 |clear B7R
  have C0f:=trivial;exact FY
 |clear B7W
  refine tH 8 fun K hK => ?_;go_simp
  first
  |clear C0g
   go_at_call 149
   first
   |clear B3p
    refine (Du g 7 _ Zc1 Fc1 dC).mono ?_;rintro e w2 ⟨rfl,hw2⟩;have FC:=Hc1.setCode 7;have PS:=Pc1.set1 7 (.int .i64 7) AF;have QS0:=Ec10.otherC g 7 (.int .i64 7) hneq;have QS1:=Ec11.otherC g 7 (.int .i64 7) hnuc;exact lc
   |refine (Dr g 7 _ Zc1).mono ?_;have C0h:=trivial;exact GN
  |(go_at_call 243);refine (CI _ _ VK).mono ?_;have C0i:=trivial;exact GN
 |clear B79
  first
  |clear C0e
   refine tK 23 ?_;have B3G:=trivial;exact oF
  |clear B9L
   refine tK 17 ?_;have C0j:=trivial;exact FY
  |clear C0k
   have B9N:=trivial;exact MF
  |clear C0h
   refine tK 9 ?_;have B9K:=trivial;exact MF
  |clear A8P
   have C0l:=trivial;exact Tg
  |clear A8d
   exact oF
  |clear C0i
   refine tH 9 fun K hK => ?_;go_simp;go_at_call 149
   first
   |clear A6N
    refine (Du g 9 _ Zc1 Fc1 dC).mono ?_;rintro e w2 ⟨rfl,hw2⟩;have FC:=Hc1.setCode 9;have PS:=Pc1.set1 7 (.int .i64 9) AF;have QS0:=Ec10.otherC g 7 (.int .i64 9) hneq;have B1p:=trivial;exact Sl
   |refine (Dr g 9 _ Zc1).mono ?_;have C0k:=trivial;exact GN
  |refine tK 4 ?_
   first
   |clear A8i
    first
    |clear A6b
     refine tN 5 ?_;refine tN 6 ?_;refine tN 7 ?_;refine tN 8 ?_;exact il
    |refine tK 5 ?_;refine tK 6 ?_;refine tK 7 ?_;refine tK 8 ?_;exact il
   |refine tK 5 ?_;refine tK 6 ?_;refine tK 7 ?_;refine tK 8 ?_;refine tK 9 ?_;refine tK 10 ?_;refine tK 11 ?_
    first
    |clear B5D
     refine tK 12 ?_;refine tK 13 ?_;refine tK 14 ?_;refine tK 15 ?_;refine tK 16 ?_;refine tK 21 ?_;refine tH 17 fun K hK => ?_;have B6F:=trivial;exact Tf
    |refine tH 12 fun K hK => ?_;go_simp;(go_at_call 138);refine (CA _ (V0.keep BD)).mono ?_;rintro e wc1 ⟨rfl,bc1⟩;exact UB
 |first
  |clear A6v
   refine tK 4 ?_;refine tN 5 ?_;refine tN 6 ?_;refine tN 7 ?_;refine tN 8 ?_;refine tN 9 ?_;refine tN 10 ?_;exact kI
  |clear A8V
   have B18:=trivial;exact kh
  |first
   |clear B9M
    refine tK 17 ?_;exact Tc
   |refine tK 9 ?_;exact TE):p:=h
theorem UN(h:p:=by
 simp only [List.append_assoc,List.nodup_append,List.mem_append] at hnd;refine ⟨fun k hk hm => ?_,fun k hk hm => ?_,fun k hk hm => ?_⟩;all_goals first | exact hnd.2.2 k hk k (Or.inl hm) rfl | exact hnd.2.2 k hm k (Or.inl hk) rfl | exact hnd.2.2 k hm k (Or.inr (Or.inl hk)) rfl | exact hnd.2.2 k hk k (Or.inr (Or.inl hm)) rfl | exact hnd.2.1.2.2 k hm k (Or.inl hk) rfl | exact hnd.2.1.2.2 k hk k (Or.inl hm) rfl | exact hnd.2.2 k hm k (Or.inr (Or.inr hk)) rfl | exact hnd.2.1.2.2 k hm k (Or.inr hk) rfl | exact hnd.2.1.2.2 k hk k (Or.inr hm) rfl | exact hnd.2.1.2.1.2.2 k hm k hk rfl | exact hnd.2.1.2.2 k hm k hk rfl):p:=h
theorem D3(h:p:=by
 go_wp2;go_ret;exact ⟨⟨false,rfl,(fun e=>Gj),(fun e=>absurd e hno.out)⟩,BX⟩):p:=h
theorem Qz(h:p:=by
 go_enter Tryz.func307,Tryz.ntmps307
 go_wp2_with (first | (go_at_call 316;refine (Hd.out _).mono ?_;rintro e w1 ⟨rfl,hb1⟩) | ((first | (go_at_call 316;refine (QL _ _ _ _).mono ?_) | (go_at_call 264;refine (ML _ _ _).mono ?_));(first | (rintro e w1 ⟨rfl,rfl⟩) | (rintro e w1 ⟨rfl,hb⟩;(try (replace H0:=A7 H0 hb bS;clear hc0 hf0 hs0 hz0;obtain ⟨hc0,hf0,hs0,hz0⟩:=AS H0));(try (replace H1:=A7 H1 hb bS;clear hc1 hf1 hs1 hz1;obtain ⟨hc1,hf1,hs1,hz1⟩:=AS H1));(try (replace H2:=A7 H2 hb bS;clear hc2 hf2 hs2 hz2;obtain ⟨hc2,hf2,hs2,hz2⟩:=AS H2));(try replace S0:=S0.keep (AD hb bS));(try replace S1:=S1.keep (AD hb bS));(try replace S2:=S2.keep (AD hb bS));(try replace S3:=S3.keep (AD hb bS));(first | ((fail_if_success (have ht:=H0));have H0:=hb;obtain ⟨hc0,hf0,hs0,hz0⟩:=AS H0) | ((fail_if_success (have ht:=H1));have H1:=hb;obtain ⟨hc1,hf1,hs1,hz1⟩:=AS H1) | ((fail_if_success (have ht:=H2));have H2:=hb;obtain ⟨hc2,hf2,hs2,hz2⟩:=AS H2) | skip)))))
 go_ret2
 first
 |clear B7h
  exact ⟨cQ,bW⟩
 |exact ⟨LT,bW⟩):p:=h
theorem Ie(h:p:=by
 go_wp2;(try simp only [Exit.inBlock,Exit.then]);refine bodyPost_ret (results_none rfl _ _ _) rfl ?_
 first
 |clear C0m
  rw [hk7] at H5;exact ⟨rfl,F,_,b,[],H5,WX,fun e=>absurd e h0⟩
 |clear C0n
  rw [HCX.out] at H5;exact ⟨rfl,F,_,b,[],H5,WX,fun e=>absurd (HCX.out.trans e) h0⟩
 |clear C0o
  exact ⟨rfl,F,_,b,[],H5,WX,fun e=>by rw [hcd13.out] at e;cases e⟩
 |clear C0p
  exact ⟨rfl,F,_,b,[],by rw [hcd6.out];exact H2,WX,fun e=>by rw [hcd6.out] at e;cases e⟩
 |clear A43
  exact ⟨rfl,H2,W2⟩
 |clear A8b
  exact ⟨rfl,H2,WX⟩
 |clear B0f
  exact ⟨rfl,H2,W3⟩
 |first
  |clear B1f
   rw [← CDC H0.out] at H5;exact ⟨rfl,F,_,b,[],H5,WX,fun e=>absurd ((CDC H0.out).symm.trans e) H0.out⟩
  |exact ⟨rfl,F,_,b,[],H5,WX,fun e=>absurd e H0.out⟩):p:=h
end
end Go.Proofs.YtahefgkdbecemaaGreat
