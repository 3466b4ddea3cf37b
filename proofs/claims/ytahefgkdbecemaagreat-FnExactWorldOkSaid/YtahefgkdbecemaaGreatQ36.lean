/- A channel closed (spec). -/
import Derived.Test.YtahefgkdbecemaaGreatQ7
import Derived.Test.YtahefgkdbecemaaGreatQ23
import Derived.Test.YtahefgkdbecemaaGreatQ22
import Derived.Test.YtahefgkdbecemaaGreatQ6
import Derived.Test.YtahefgkdbecemaaGreatQ8
import Derived.BigRegion
namespace Go.Proofs.YtahefgkdbecemaaGreat
open Go.RowKit
set_option linter.unusedVariables false
set_option linter.unusedSimpArgs false
set_option maxRecDepth 100000
set_option maxHeartbeats 12800000
theorem yj (F:List Nat) (x:Value) (g B:Nat) (b:Bk) (k0 ky ch tt am fe:Int) (ys:Bool) (w:World) (H:Wk F x w g B b [] 0) (hb:Bok b) (ho:Af b ⟨3,ky,ch,tt,am,fe,ys⟩=false) (hk0:k0=3) (hch:1≤ch∧ch≤99) (ha:0≤am∧am≤1125899906842624) (hf:0≤fe∧fe≤1125899906842624):Calls Tryz.prog 153 #[.pointer (some ⟨g,0,none⟩), .agg #[k0,ky,ch,tt,am,fe,ys]] w fun e w'=>e = .returned (.tuple #[])∧Dn F g B b ⟨3,ky,ch,tt,am,fe,ys⟩ w w':=by
 subst hk0
 have hcode:=vB (b:=b) (e:=⟨3,ky,ch,tt,am,fe,ys⟩) ho rfl
 have hov:=(ES ho).2.2.2.1 rfl
 unfold Dn
 generalize AQ b ⟨3,ky,ch,tt,am,fe,ys⟩=cd at hcode ⊢
 dsimp only at hcode hov
 obtain ⟨A,hA⟩:∃ A,A=AM b.chans ch:=⟨_,rfl⟩
 obtain ⟨q7,hq7⟩:∃ q,q=DH b ch:=⟨_,rfl⟩
 rw [← hA,← hq7] at hcode
 rw [← hA] at hov
 have HC:=lH hcode
 have HA:=lH hA
 have HOV:=lH hov
 clear hcode ho hA hov
 have hcl:b.chans.length≤20:=hb.n20
 have bA:=MO hb ch
 rw [← HA.out] at bA
 obtain ⟨bA1,bA2,bA3,bA4⟩:=bA
 unfold Am at bA1 bA2 bA3
 obtain ⟨y,z,l,P,V,-⟩:=H.cells
 obtain ⟨ax,n,cx,rfl,hn,-⟩:=VS.form V.chans
 obtain ⟨ay,m,cy,rfl,-,-⟩:=VS.form V.htlcs
 obtain ⟨az,q,cz,rfl,-,-⟩:=VS.form V.circles
 have HN:=lH hn
 have hnB:=VS.lenB V.chans
 clear hn
 have PE:=bN w [.int .i64 3,ky,ch,tt,am,fe,ys] 73
 have b0:=bA w [.int .i64 3,ky,ch,tt,am,fe,ys] 73
 obtain ⟨ue,hue⟩:∃ u,u=w.heap.size:=⟨_,rfl⟩
 rw [← hue] at PE
 have nE:=H.fresh
 rw [← hue] at nE
 go_enter Tryz.func153,Tryz.ntmps153
 go_upto_region 1 with fail
 rw [← hue]
 generalize w.alloc (.cells #[.int .i64 3,ky,ch,tt,am,fe,ys] 73)=w0 at PE b0 ⊢
 have H0:=H.keep b0
 have P0:=P.keep b0
 have V0:=V.keep b0
 have W0:Wf g F F w w0:=Wf.of_below b0
 clear b0 P V H hue
 have CA:=Hi (.slice ax n cx) (.slice ay m cy) (.slice az q cz) b ch
 have CU:=A08 (.slice ax n cx) (.slice ay m cy) (.slice az q cz) b ch
 rw [← hq7] at CU
 have HQ7:=lH hq7
 clear hq7
 have hneq:¬ ue=g:=fun e=>nE (by simp [e])
 obtain ⟨p0,p1,p2,p3,p4,p5⟩:=P0.c6
 have c2:=PE.cell 2 _ rfl
 go_cut [4] (fun v wq=>v=(D9 b.chans ch)∧Below w0 w0 wq)
 case first =>
  go_region_with (go_at_call 138;refine (CA _ (V0.keep (bW))).mono ?_;rintro e w1 ⟨rfl,b1⟩)
  all_goals
   go_wp2_with fail
   go_meet
   case rel=>exact ⟨rfl,bW⟩
 case rest =>
  obtain ⟨rfl,b1⟩:=hcut
  obtain ⟨w1,hw1⟩:∃ x,x=wc:=⟨_,rfl⟩
  subst hw1
  have H1:=H0.keep b1
  have P1:=P0.keep b1
  have V1:=V0.keep b1
  have PE:=PE.keep b1
  have WX:=W0.trans (Wf.of_below b1)
  clear p0 p1 p2 p3 p4 p5 c2 H0 P0 V0 W0 b1 CA
  cases hh:AI b.chans ch
  ·have hcd6:Hid (cd=6):=by unfold Hid;rw [HC.out,hh];cases q7<;>cases decide (A.loc<fe)<;>rfl
   rw [IW hh]
   clear hh
   go_wp2_with fail
   refine (I4 F _ g B b [] 0 6 true w1 H1 dC).mono ?_
   rintro e w2 ⟨rfl,H2,W2⟩
   rw [show AG true 6 0=6 from rfl] at H2
   have WX:=WX.trans W2
   go_wp2
   (try simp only [Exit.inBlock,Exit.then])
   refine bodyPost_ret (results_none rfl _ _ _) rfl ?_
   exact ⟨rfl,F,_,b,[],by rw [hcd6.out];exact H2,WX,fun e=>by rw [hcd6.out] at e;cases e⟩
  obtain ⟨i,a,h1,h2,h3,h4,h5⟩:=EH hh
  have e1:A=a:=HA.out.trans h4
  subst e1
  rw [h1]
  have HH:=lH hh
  have e0:decide ((i:Int)<0)=false:=decide_eq_false oM
  clear hh h4 h1
  obtain ⟨ar,nr,cr,hxe,p3,hnr,hncr,OR,VR,HR⟩:=H1.cn
  simp only [Value.slice.injEq] at hxe
  obtain ⟨rfl,rfl,rfl⟩:=hxe
  have hlt:i<n:=by have:=HN.out;omega
  have hPn:∃ gx,ax=some ⟨gx,0,none⟩:=by
   rcases OR.2 with ⟨h,_⟩ | ⟨g',cap',cur,h,_⟩
   ·simp at h;omega
   simp at h;exact ⟨g',h.1⟩
  obtain ⟨gx,rfl⟩:=hPn
  have AT:=H1.at h2 h3 hb.so
  have H3:=lH h3
  clear h3
  have u0:=AT.1 0 _ rfl
  have u1:=AT.1 1 _ rfl
  have u2:=AT.1 2 _ rfl
  have u3:=AT.1 3 _ rfl
  have u4:=AT.1 4 _ rfl
  have u5:=AT.1 5 _ rfl
  have u6:=AT.1 6 _ rfl
  simp only [Nat.add_zero] at u0
  have hI1:(0:Int)≤(i:Int):=by omega
  have hI2:(i:Int)<(n:Int):=by omega
  go_wp2_with fail
  refine (Kl F _ g B b [] 0 6 w1 H1).mono ?_
  rintro e w2 ⟨rfl,rfl⟩
  go_upto_region 4 with fail
  refine cW fun w0 Q b4 => ?_
  obtain ⟨uc,huc⟩:∃ u,u=w1.heap.size:=⟨_,rfl⟩
  rw [← huc] at Q ⊢
  have nQ:=H1.fresh
  rw [← huc] at nQ
  have PE:=PE.keep b4
  have H0:=H1.keep b4
  have P0:=P1.keep b4
  have V0:=V1.keep b4
  have WX:=WX.trans (Wf.of_below b4)
  clear AT u0 u1 u2 u3 u4 u5 u6 H1 P1 V1 b4 huc p3 HR OR VR
  have hnuc:¬ uc=g:=fun e=>nQ (by simp [e])
  have BD:Below w0 w0 w0.drew:=Below.drew (Below.refl _ _)
  have HD:=H0.keep BD
  have PD:=P0.keep BD
  have D7:=PD.cell 7 _ rfl
  have DF:=PD.fz 7 AF
  have D_ue:=PE.keep BD
  have D_uc:=Q.keep BD
  obtain ⟨ds0,ds1,ds2,ds3,ds4,ds5⟩:=PD.c6
  have due2:=D_ue.cell 2 _ rfl
  have due5:=D_ue.cell 5 _ rfl
  have duc2:=D_uc.cell 2 _ rfl
  go_cut [45] (fun v wq=>v = .bool (cd != 0)∧Wk F (.slice (some ⟨gx,0,none⟩) n cx) wq g B b [] cd∧Wf g F F w0 wq)
  case first =>
   cases q7 with
   | true =>
    have HCD:Hid (cd=7):=by unfold Hid;rw [HC.out,HH.out];cases decide (A.loc<fe)<;>rfl
    refine wp_region_noPanic ?_
    refine wp_region_held_drew (S:=fun w'=>w'.cell? ⟨g,0,none⟩=.some b.tick∧w'.cell? ⟨g,1,none⟩=.some b.next∧w'.cell? ⟨g,2,none⟩=.some b.wallet∧w'.cell? ⟨g,3,none⟩=some (.slice (some ⟨gx,0,none⟩) n cx)∧w'.cell? ⟨g,4,none⟩=some (.slice ay m cy)∧w'.cell? ⟨g,5,none⟩=some (.slice az q cz)∧w'.cell? ⟨ue,2,none⟩=.some ch∧w'.cell? ⟨ue,5,none⟩=.some fe∧w'.cell? ⟨uc,2,none⟩=.some A.loc) kR ?_ (fun hHeld => ?_)
    ·(try dsimp only)
     go_keep
    refine tK 0 ?_
    refine tK 1 ?_
    refine tK 2 ?_
    refine tK 3 ?_
    refine tK 4 ?_
    refine tK 5 ?_
    refine tK 6 ?_
    refine tH 7 fun K hK => ?_
    go_simp
    go_at_call 242
    refine (CU _ (V0.keep BD)).mono ?_
    rintro e wc1 ⟨rfl,bc1⟩
    have Bc1:Below w0 w0 wc1:=Below.trans BD (Below.mono bc1 BD.size)
    have Hc1:=H0.keep Bc1
    have Pc1:=P0.keep Bc1
    have Ec10:=PE.keep Bc1
    have Ec11:=Q.keep Bc1
    have Zc1:=Pc1.cell 7 _ rfl
    have Fc1:=Pc1.fz 7 AF
    obtain ⟨c1s0,c1s1,c1s2,c1s3,c1s4,c1s5⟩:=Pc1.c6
    have c1ue2:=Ec10.cell 2 _ rfl
    have c1ue5:=Ec10.cell 5 _ rfl
    have c1uc2:=Ec11.cell 2 _ rfl
    go_wp2_with fail
    refine sO hK fun hHeld => ?_
    clear hK K
    refine tH 8 fun K hK => ?_
    go_simp
    go_at_call 149
    refine (Du g 7 _ Zc1 Fc1 dC).mono ?_
    rintro e w2 ⟨rfl,hw2⟩
    have FC:=Hc1.setCode 7
    have PS:=Pc1.set1 7 (.int .i64 7) AF
    have QS0:=Ec10.otherC g 7 (.int .i64 7) hneq
    have QS1:=Ec11.otherC g 7 (.int .i64 7) hnuc
    rw [hw2] at FC PS QS0 QS1
    obtain ⟨zs0,zs1,zs2,zs3,zs4,zs5⟩:=PS.c6
    have zue2:=QS0.cell 2 _ rfl
    have zue5:=QS0.cell 5 _ rfl
    have zuc2:=QS1.cell 2 _ rfl
    clear hw2
    go_wp2_with fail
    refine sO hK fun hHeld => ?_
    clear hK K
    refine tK 9 ?_
    refine tN 10 ?_
    refine tN 11 ?_
    refine tN 12 ?_
    refine tN 13 ?_
    refine tN 14 ?_
    refine tN 15 ?_
    refine tN 16 ?_
    refine tK 17 ?_
    refine wpAnyH_done kR ?_ _
    refine NoPanic.normal ?_
    try go_wp2_with fail
    go_meet
    case rel=>exact ⟨by rw [HCD.out];rfl,by rw [HCD.out];exact ⟨FC.1,(Wf.of_below Bc1).trans FC.2⟩⟩
   | false =>
    by_cases h8:A.loc<fe;rotate_left
    ·have e8:decide (A.loc<fe)=false:=decide_eq_false h8
     clear h8
     have HCD:Hid (cd=0):=by unfold Hid;rw [HC.out,HH.out];rw [e8];rfl
     refine wp_region_noPanic ?_
     refine wp_region_held_drew (S:=fun w'=>w'.cell? ⟨g,0,none⟩=.some b.tick∧w'.cell? ⟨g,1,none⟩=.some b.next∧w'.cell? ⟨g,2,none⟩=.some b.wallet∧w'.cell? ⟨g,3,none⟩=some (.slice (some ⟨gx,0,none⟩) n cx)∧w'.cell? ⟨g,4,none⟩=some (.slice ay m cy)∧w'.cell? ⟨g,5,none⟩=some (.slice az q cz)∧w'.cell? ⟨ue,2,none⟩=.some ch∧w'.cell? ⟨ue,5,none⟩=.some fe∧w'.cell? ⟨uc,2,none⟩=.some A.loc) kR ?_ (fun hHeld => ?_)
     ·(try dsimp only)
      go_keep
     refine tK 0 ?_
     refine tK 1 ?_
     refine tK 2 ?_
     refine tK 3 ?_
     refine tK 4 ?_
     refine tK 5 ?_
     refine tK 6 ?_
     refine tH 7 fun K hK => ?_
     go_simp
     go_at_call 242
     refine (CU _ (V0.keep BD)).mono ?_
     rintro e wc1 ⟨rfl,bc1⟩
     have Bc1:Below w0 w0 wc1:=Below.trans BD (Below.mono bc1 BD.size)
     have Hc1:=H0.keep Bc1
     have Pc1:=P0.keep Bc1
     have Ec10:=PE.keep Bc1
     have Ec11:=Q.keep Bc1
     have Zc1:=Pc1.cell 7 _ rfl
     have Fc1:=Pc1.fz 7 AF
     obtain ⟨c1s0,c1s1,c1s2,c1s3,c1s4,c1s5⟩:=Pc1.c6
     have c1ue2:=Ec10.cell 2 _ rfl
     have c1ue5:=Ec10.cell 5 _ rfl
     have c1uc2:=Ec11.cell 2 _ rfl
     go_wp2_with fail
     refine sO hK fun hHeld => ?_
     clear hK K
     refine tH 8 fun K hK => ?_
     go_simp
     go_at_call 149
     refine (Dr g 7 _ Zc1).mono ?_
     rintro e w2 ⟨rfl,rfl⟩
     go_wp2_with fail
     refine sO hK fun hHeld => ?_
     clear hK K
     refine tK 9 ?_
     refine tK 10 ?_
     refine tK 11 ?_
     refine tK 12 ?_
     refine tK 13 ?_
     refine tK 14 ?_
     refine tK 15 ?_
     refine tH 16 fun K hK => ?_
     go_simp
     go_at_call 149
     refine (Dr g 8 _ Zc1).mono ?_
     rintro e w2 ⟨rfl,rfl⟩
     go_wp2_with fail
     refine sO hK fun hHeld => ?_
     clear hK K
     refine tK 17 ?_
     refine wpAnyH_done kR ?_ _
     refine NoPanic.normal ?_
     try go_wp2_with fail
     go_meet
     case rel=>exact ⟨by rw [HCD.out];rfl,by rw [HCD.out];exact ⟨Hc1,Wf.of_below Bc1⟩⟩
    have e8:decide (A.loc<fe)=true:=decide_eq_true h8
    clear h8
    have HCD:Hid (cd=8):=by unfold Hid;rw [HC.out,HH.out];rw [e8];rfl
    refine wp_region_noPanic ?_
    refine wp_region_held_drew (S:=fun w'=>w'.cell? ⟨g,0,none⟩=.some b.tick∧w'.cell? ⟨g,1,none⟩=.some b.next∧w'.cell? ⟨g,2,none⟩=.some b.wallet∧w'.cell? ⟨g,3,none⟩=some (.slice (some ⟨gx,0,none⟩) n cx)∧w'.cell? ⟨g,4,none⟩=some (.slice ay m cy)∧w'.cell? ⟨g,5,none⟩=some (.slice az q cz)∧w'.cell? ⟨ue,2,none⟩=.some ch∧w'.cell? ⟨ue,5,none⟩=.some fe∧w'.cell? ⟨uc,2,none⟩=.some A.loc) kR ?_ (fun hHeld => ?_)
    ·(try dsimp only)
     go_keep
    refine tK 0 ?_
    refine tK 1 ?_
    refine tK 2 ?_
    refine tK 3 ?_
    refine tK 4 ?_
    refine tK 5 ?_
    refine tK 6 ?_
    refine tH 7 fun K hK => ?_
    go_simp
    go_at_call 242
    refine (CU _ (V0.keep BD)).mono ?_
    rintro e wc1 ⟨rfl,bc1⟩
    have Bc1:Below w0 w0 wc1:=Below.trans BD (Below.mono bc1 BD.size)
    have Hc1:=H0.keep Bc1
    have Pc1:=P0.keep Bc1
    have Ec10:=PE.keep Bc1
    have Ec11:=Q.keep Bc1
    have Zc1:=Pc1.cell 7 _ rfl
    have Fc1:=Pc1.fz 7 AF
    obtain ⟨c1s0,c1s1,c1s2,c1s3,c1s4,c1s5⟩:=Pc1.c6
    have c1ue2:=Ec10.cell 2 _ rfl
    have c1ue5:=Ec10.cell 5 _ rfl
    have c1uc2:=Ec11.cell 2 _ rfl
    go_wp2_with fail
    refine sO hK fun hHeld => ?_
    clear hK K
    refine tH 8 fun K hK => ?_
    go_simp
    go_at_call 149
    refine (Dr g 7 _ Zc1).mono ?_
    rintro e w2 ⟨rfl,rfl⟩
    go_wp2_with fail
    refine sO hK fun hHeld => ?_
    clear hK K
    refine tK 9 ?_
    refine tK 10 ?_
    refine tK 11 ?_
    refine tK 12 ?_
    refine tK 13 ?_
    refine tK 14 ?_
    refine tK 15 ?_
    refine tH 16 fun K hK => ?_
    go_simp
    go_at_call 149
    refine (Du g 8 _ Zc1 Fc1 dC).mono ?_
    rintro e w2 ⟨rfl,hw2⟩
    have FC:=Hc1.setCode 8
    have PS:=Pc1.set1 7 (.int .i64 8) AF
    have QS0:=Ec10.otherC g 7 (.int .i64 8) hneq
    have QS1:=Ec11.otherC g 7 (.int .i64 8) hnuc
    rw [hw2] at FC PS QS0 QS1
    obtain ⟨zs0,zs1,zs2,zs3,zs4,zs5⟩:=PS.c6
    have zue2:=QS0.cell 2 _ rfl
    have zue5:=QS0.cell 5 _ rfl
    have zuc2:=QS1.cell 2 _ rfl
    clear hw2
    go_wp2_with fail
    refine sO hK fun hHeld => ?_
    clear hK K
    refine tK 17 ?_
    refine wpAnyH_done kR ?_ _
    refine NoPanic.normal ?_
    try go_wp2_with fail
    go_meet
    case rel=>exact ⟨by rw [HCD.out];rfl,by rw [HCD.out];exact ⟨FC.1,(Wf.of_below Bc1).trans FC.2⟩⟩
  case rest =>
   obtain ⟨rfl,H5,W2⟩:=hcut
   obtain ⟨w2,hw2⟩:∃ x,x=wc:=⟨_,rfl⟩
   subst hw2
   have WX:=WX.trans W2
   obtain ⟨PE,nE⟩:=W2.box PE nE
   obtain ⟨Q,nQ⟩:=W2.box Q nQ
   clear CU H0 V0 W2 P0 ds0 ds1 ds2 ds3 ds4 ds5 due2 due5 duc2 BD HD PD D7 DF D_ue D_uc
   by_cases h0:cd=0;rotate_left
   ·have e7:(cd != 0)=true:=by simp [h0]
    have H0:=lH h0
    clear h0
    go_wp2
    (try simp only [Exit.inBlock,Exit.then])
    refine bodyPost_ret (results_none rfl _ _ _) rfl ?_
    exact ⟨rfl,F,_,b,[],H5,WX,fun e=>absurd e H0.out⟩
   have hcA:=HC.out.symm
   rw [h0] at hcA
   obtain ⟨r8,-⟩:=Bg hcA dC
   have r8:=of_decide_eq_false r8
   have hov:=HOV.out
   rw [HH.out,Bool.true_and] at hov
   have hov:=of_decide_eq_false hov
   clear hcA HC
   subst h0
   have e7:((0:Int) != 0)=false:=rfl
   obtain ⟨yv,zv,lv,PV,VV,-⟩:=H5.cells
   obtain ⟨ar,nr,cr,hxe,-,hnr,hncr,OR,VR,HR⟩:=H5.cn
   simp only [Value.slice.injEq] at hxe
   obtain ⟨rfl,rfl,rfl⟩:=hxe
   have OKS:=VR.oks
   obtain ⟨L,hL⟩:∃ L,L=b.chans.filter (fun c => !decide (c.id=ch)):=⟨_,rfl⟩
   have hoks:∀ y∈L,y.ok:=fun y hy=>by rw [hL] at hy;exact OKS y (List.mem_filter.1 hy).1
   have HOKS:=lH hoks
   have HL:=lH hL
   clear hoks hL OKS OR hnr
   have O0:AC Cn.enc 7 182 (w2.alloc (.cells #[] 182)) w2 (.slice (some ⟨w2,0,none⟩) 0 0) []:=AC.made (enc:=Cn.enc) (sz:=7) (E:=182) w2 w2 (Nat.le_refl _)
   have b0:=bA w2 [] 182
   go_upto_region 6 with fail
   generalize w2.alloc (.cells #[] 182)=w4 at O0 b0 ⊢
   have B1:=b0
   have P4:=PV.keep B1
   have hn20:n≤20:=by have:=HN.out;omega
   clear b0
   have p3:=P4.cell 3 _ rfl
   go_wp2
   go_loopw [6,8,53] (fun ks _ i wr=>∃ (k:Nat) (v:Value) (KK:List Cn),k≤n∧i=k∧ks=v∧AC Cn.enc 7 182 wr w2 v KK∧Hid (KK=(b.chans.take k).filter (fun c => !decide (c.id=ch)))∧KK.length≤k∧Below w2 w2 wr) (fun _ _ i _=>n - (intOf i).toNat)
   case atStart=>exact ⟨0,_,[],Nat.zero_le _,rfl,rfl,O0,rfl,Nat.le_refl _,B1⟩
   case round =>
    obtain ⟨k,v,KK,hk,rfl,rfl,ho,hKK,hKl,hB⟩:=hrel
    clear O0 P4 p3 B1
    obtain ⟨ao,co,rfl,-⟩:=AC.of (ok:=fun _=>True) ho (fun _ _=>trivial)
    by_cases hlt2:k<n
    ·obtain ⟨g1,off,⟨x0,x1,x2,x3,x4,x5,x6⟩,hge,hg1,-,⟨c0,c1,c2,c3,c4,c5,c6⟩,hx,ht⟩:=Bz.at_ (VV.keep hB).chans hlt2
     simp only [Option.some.injEq,Addr.mk.injEq] at hge
     obtain ⟨rfl,rfl,-⟩:=hge
     simp only [Nat.zero_add] at c0 c1 c2 c3 c4 c5 c6
     go_upto_region 9 with fail
     refine cW fun w5 P5 b5 => ?_
     obtain ⟨ux,hux⟩:∃ u,u=wr.heap.size:=⟨_,rfl⟩
     rw [← hux] at P5 ⊢
     clear hux
     have hB5:=AD b5 hB
     have ho5:AC Cn.enc 7 182 w5 w2 (.slice ao KK.length co) KK:=AC.keep ho b5
     have e2:=(PE.keep hB5).cell 2 _ rfl
     obtain ⟨d0,d1,d2,d3,d4,d5,d6⟩:=P5.c7
     clear c0 c1 c2 c3 c4 c5 c6 ho hB b5 hg1
     by_cases hkx:x0=ch
     ·have e1:(x0 != ch)=false:=by simp [hkx]
      have hKK2:Hid (KK=(b.chans.take (k+1)).filter (fun c => !decide (c.id=ch))):=by unfold Hid;rw [za ht.out (by simp [hkx])];exact hKK.out
      clear hx ht hkx
      go_wp2
      go_roundw
      case rel=>exact ⟨k+1,_,KK,by omega,by go_num,rfl,ho5,hKK2,by omega,hB5⟩
      case measure=>simp only [intOf];omega
     have e1:(x0 != ch)=true:=by simp [hkx]
     obtain ⟨K2,hE2⟩:∃ l,l=KK ++ [(⟨x0,x1,x2,x3,x4,x5,x6⟩:Cn)]:=⟨_,rfl⟩
     have hKK2:Hid (K2=(b.chans.take (k+1)).filter (fun c => !decide (c.id=ch))):=by unfold Hid;rw [zn ht.out (by simp [hkx]),hE2,← hKK.out]
     have HE2:=lH hE2
     have hl2:K2.length≤k+1:=by rw [hE2,List.length_append];simp;omega
     clear hx ht hE2 hkx
     go_wp2_with (at_builtin;refine I1 D4 Tryz.underlying50 rfl dC dC (fun _=>rfl) ER rfl _ _ rfl w2 _ KK rfl (AC.alloc ho5 _) _ (⟨x0,x1,x2,x3,x4,x5,x6⟩:Cn) rfl (BC _ _ _ rfl) oM (Nat.le_trans hB5.size (Aj _ _)) ?_)
     intro v8 w8 o8 g8 f8
     rw [← HE2.out] at o8
     obtain ⟨a8,c8,rfl,-⟩:=AC.of (ok:=fun _=>True) o8 (fun _ _=>trivial)
     have b58:Ex (Value.slice ao KK.length co).ownBlock.toList w5 w8:=(Ex.of_below (Ae (Below.refl w5 w5) _) _).trans (Ex.of_grown g8)
     have FB:Below w2 w2 w8:=hB5.trans (b58.below (fun k hk=>(Cj ho5 k hk).1) hB5.size)
     clear f8 g8 b58 P5 ho5 HE2 e2 d0 d1 d2 d3 d4 d5 d6
     go_wp2
     go_roundw
     case rel=>exact ⟨k+1,_,K2,by omega,by go_num,rfl,o8,hKK2,by omega,FB⟩
     case measure=>simp only [intOf];omega
    have hKF:=hKK.out
    rw [List.take_of_length_le (by have:=HN.out;omega)] at hKF
    have hKL:L=KK:=HL.out.trans hKF.symm
    subst hKL
    obtain ⟨F',FK,FW⟩:=HR wr (.slice ao L.length co) L (Ex.of_below hB _) (AC.le ho (by have:=H5.lt;omega)) (fun k hk=>Or.inr (Cj ho k hk).1) HOKS.out
    have P7:=PV.keep hB
    have p3:=P7.cell 3 _ rfl
    have z3:=P7.fz 3 AF
    have hgl:=PV.lt
    clear HR VR VV hKK hKl hKF
    go_upto_region 13 with fail
    obtain ⟨PE',nE'⟩:=FW.box PE nE
    obtain ⟨Q',nQ'⟩:=FW.box Q nQ
    have WX':=WX.trans FW
    generalize wr.setCell ⟨g,3,none⟩ (.slice ao L.length co)=w8 at FK FW PE' Q' WX' ⊢
    clear P7 p3 z3 ho hB H5 PE nE Q nQ WX PV FW
    have H5:=FK
    have PE:=PE'
    have nE:=nE'
    have Q:=Q'
    have nQ:=nQ'
    have WX:=WX'
    clear FK PE' nE' Q' nQ' WX'
    have hwlt:=hb.wallet
    unfold Am at hwlt
    have c5:=PE.cell 5 _ rfl
    have x2:=Q.cell 2 _ rfl
    obtain ⟨yp,zp,lp,PP,-,-⟩:=H5.cells
    have p2:=PP.cell 2 _ rfl
    have zr:=PP.fz 2 AF
    have hwr2:IntKind.i64.wrap (b.wallet+A.loc)=b.wallet+A.loc:=by rw [IntKind.wrap_i64];omega
    have hwr3:IntKind.i64.wrap (b.wallet+A.loc - fe)=b.wallet+A.loc - fe:=by rw [IntKind.wrap_i64];omega
    have hwr4:IntKind.i64.wrap (A.loc - fe)=A.loc - fe:=by rw [IntKind.wrap_i64];omega
    have FIN:=H5.wallet (b.wallet+A.loc - fe) uI
    have FW:=FIN.2.trans (Wf.of_below (Below.drew (Below.refl _ _)))
    have FK:=FIN.1.keep (Below.drew (Below.refl _ _))
    obtain ⟨PE',nE'⟩:=FW.box PE nE
    obtain ⟨Q',nQ'⟩:=FW.box Q nQ
    have WX':=WX.trans FW
    clear FIN FW H5 PE nE Q nQ WX
    go_cut [] (fun wq=>wq=World.drew (World.setCell w8 ⟨g,2,none⟩ (Value.int IntKind.i64 (b.wallet+A.loc - fe))))
    case first =>
     go_region_with (fail)
     all_goals
      go_wp2_with fail
      go_meet
      case rel=>rfl
    case' rest =>
     obtain ⟨wb2,hwn⟩:∃ x,x=wc:=⟨_,rfl⟩
     subst hwn
     rw [← hcut] at FK PE' Q' WX'
     clear hcut
    have H5:=FK
    have PE:=PE'
    have nE:=nE'
    have Q:=Q'
    have nQ:=nQ'
    have WX:=WX'
    clear FK PE' nE' Q' nQ' WX' p2 zr c5 x2 PP
    have LI:=LsIn.nil
    have c5:=PE.cell 5 _ rfl
    have x2:=Q.cell 2 _ rfl
    obtain ⟨hg,LI⟩:=LsIn.add LI (x:=⟨1,0,A.loc - fe⟩) sM Cq uL sM
    go_wp2_with fail
    refine (DK _ _ g B _ _ 0 1 0 (A.loc - fe) _ H5 hg).mono ?_
    rintro e w9 ⟨rfl,F9,H9,W9⟩
    obtain ⟨PE,nE⟩:=W9.box PE nE
    obtain ⟨Q,nQ⟩:=W9.box Q nQ
    have H5:=H9
    have WX:=WX.trans W9
    clear H9 W9 hg c5 x2
    have c5:=PE.cell 5 _ rfl
    obtain ⟨hg,LI⟩:=LsIn.add LI (x:=⟨5,0,fe⟩) sM Cq uL sM
    go_wp2_with fail
    refine (DK _ _ g B _ _ 0 5 0 (fe) _ H5 hg).mono ?_
    rintro e w9 ⟨rfl,F9,H9,W9⟩
    obtain ⟨PE,nE⟩:=W9.box PE nE
    obtain ⟨Q,nQ⟩:=W9.box Q nQ
    have H5:=H9
    have WX:=WX.trans W9
    clear H9 W9 hg c5
    have c2:=PE.cell 2 _ rfl
    have x2:=Q.cell 2 _ rfl
    have hwr2:IntKind.i64.wrap (-A.loc) = -A.loc:=by rw [IntKind.wrap_i64];omega
    obtain ⟨hg,LI⟩:=LsIn.add LI (x:=⟨6,ch,-A.loc⟩) sM Cq uL sM
    go_wp2_with fail
    refine (DK _ _ g B _ _ 0 6 ch (-A.loc) _ H5 hg).mono ?_
    rintro e w9 ⟨rfl,F9,H9,W9⟩
    obtain ⟨PE,nE⟩:=W9.box PE nE
    obtain ⟨Q,nQ⟩:=W9.box Q nQ
    have H5:=H9
    have WX:=WX.trans W9
    clear H9 W9 hg c2 x2
    go_wp2
    go_end0
    rw [Gb,Gy,Uv] at H5
    ·refine ⟨rfl,_,_,_,_,H5,WX,?_⟩
     try intro _
     have hdo:Al b ⟨3,ky,ch,tt,am,fe,ys⟩=({b with chans:=b.chans.filter (fun c => !decide (c.id=ch)),wallet:=b.wallet+(AM b.chans ch).loc - fe},BL [⟨1,0,(AM b.chans ch).loc - fe⟩,⟨5,0,fe⟩,⟨6,ch,-(AM b.chans ch).loc⟩]):=rfl
     rw [hdo,← HA.out,HL.out]
     exact ⟨rfl,rfl⟩
    all_goals simp
end Go.Proofs.YtahefgkdbecemaaGreat
