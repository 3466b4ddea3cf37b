/- A channel closed (impl). -/
import Derived.Test.YtahefgkdbecemaaGreatQ7
import Derived.Test.YtahefgkdbecemaaGreatQ23
import Derived.Test.YtahefgkdbecemaaGreatQ22
import Derived.Test.YtahefgkdbecemaaGreatQ6
import Derived.Test.YtahefgkdbecemaaGreatQ8
import Derived.BigRegion
namespace Go.Proofs.YtahefgkdbecemaaGreat
open Go.RowKit
set_option linter.unusedVariables false
set_option linter.unusedSimpArgs false
set_option maxRecDepth 100000
set_option maxHeartbeats 12800000
theorem vN (F:List Nat) (x:Value) (g B:Nat) (b:Bk) (k0 ky ch tt am fe:Int) (ys:Bool) (w:World) (H:Wk F x w g B b [] 0) (hb:Bok b) (ho:Af b ⟨3,ky,ch,tt,am,fe,ys⟩=false) (hk0:k0=3) (hch:1≤ch∧ch≤99) (ha:0≤am∧am≤1125899906842624) (hf:0≤fe∧fe≤1125899906842624):Calls Tryz.prog 173 #[.pointer (some ⟨g,0,none⟩), .agg #[k0,ky,ch,tt,am,fe,ys]] w fun e w'=>e = .returned (.tuple #[])∧Dn F g B b ⟨3,ky,ch,tt,am,fe,ys⟩ w w':=by
 subst hk0
 have hcode:=vB (b:=b) (e:=⟨3,ky,ch,tt,am,fe,ys⟩) ho rfl
 have hov:=(ES ho).2.2.2.1 rfl
 unfold Dn
 generalize AQ b ⟨3,ky,ch,tt,am,fe,ys⟩=cd at hcode ⊢
 dsimp only at hcode hov
 obtain ⟨A,hA⟩:∃ A,A=AM b.chans ch:=⟨_,rfl⟩
 obtain ⟨q7,hq7⟩:∃ q,q=DH b ch:=⟨_,rfl⟩
 rw [← hA,← hq7] at hcode
 rw [← hA] at hov
 have HCODE:=lH hcode
 have HA:=lH hA
 have HOV:=lH hov
 clear hcode ho hA hov
 have hcl:b.chans.length≤20:=hb.n20
 have bA:=MO hb ch
 rw [← HA.out] at bA
 obtain ⟨bA1,bA2,bA3,bA4⟩:=bA
 unfold Am at bA1 bA2 bA3
 obtain ⟨y,z,l,P,V,-⟩:=H.cells
 obtain ⟨ax,n,cx,rfl,hn,-⟩:=VS.form V.chans
 obtain ⟨ay,m,cy,rfl,-,-⟩:=VS.form V.htlcs
 obtain ⟨az,q,cz,rfl,-,-⟩:=VS.form V.circles
 have HN:=lH hn
 have hnB:=VS.lenB V.chans
 clear hn
 have PE:=bN w [.int .i64 3,ky,ch,tt,am,fe,ys] 73
 have b0:=bA w [.int .i64 3,ky,ch,tt,am,fe,ys] 73
 obtain ⟨ue,hue⟩:∃ u,u=w.heap.size:=⟨_,rfl⟩
 rw [← hue] at PE
 have nE:=H.fresh
 rw [← hue] at nE
 go_enter Tryz.func173,Tryz.ntmps173
 go_upto_region 1 with fail
 rw [← hue]
 generalize w.alloc (.cells #[.int .i64 3,ky,ch,tt,am,fe,ys] 73)=w0 at PE b0 ⊢
 have H0:=H.keep b0
 have P0:=P.keep b0
 have V0:=V.keep b0
 have W0:Wf g F F w w0:=Wf.of_below b0
 clear b0 P V H hue
 have c2:=PE.cell 2 _ rfl
 go_wp2_with fail
 refine (QC F _ g B b [] 0 ch _ H0).mono ?_
 rintro e w3 ⟨p1,o1,rfl,T1,H3,W3,Y1⟩
 rw [← HA.out] at T1 Y1
 obtain ⟨PE,nE⟩:=W3.box PE nE
 have WX:=W0.trans W3
 clear c2 W3 H0 P0 V0 W0
 obtain ⟨k1,hk1⟩:∃ k:Int,k=AG (!AI b.chans ch) 6 0:=⟨_,rfl⟩
 rw [← hk1] at H3
 have HK1:=lH hk1
 clear hk1
 have u:=T1.cell H3
 have u0:=u 0 _ rfl
 have u1:=u 1 _ rfl
 have u2:=u 2 _ rfl
 have u3:=u 3 _ rfl
 have u4:=u 4 _ rfl
 have u5:=u 5 _ rfl
 have u6:=u 6 _ rfl
 simp only [Nat.add_zero] at u0
 go_upto_region 2 with fail
 refine cW fun w4 Q b4 => ?_
 obtain ⟨uc,huc⟩:∃ u,u=w3.heap.size:=⟨_,rfl⟩
 rw [← huc] at Q ⊢
 have nQ:=H3.fresh
 rw [← huc] at nQ
 have PE:=PE.keep b4
 have H4:=H3.keep b4
 have WX:=WX.trans (Wf.of_below b4)
 clear u u0 u1 u2 u3 u4 u5 u6 T1 H3 b4 huc
 obtain ⟨y4,z4,l4,P4,V4,-⟩:=H4.cells
 obtain ⟨ay4,m4,cy4,rfl,-,-⟩:=VS.form V4.htlcs
 obtain ⟨az4,q4,cz4,rfl,-,-⟩:=VS.form V4.circles
 have CU:=A1V (.slice ax n cx) (.slice ay4 m4 cy4) (.slice az4 q4 cz4) b ch
 simp only [← hq7] at CU
 have HQ7:=lH hq7
 clear hq7
 obtain ⟨p0,p1,p2,p3,p4,p5⟩:=P4.c6
 have c2:=PE.cell 2 _ rfl
 go_cut [] (fun wq=>Wk F (.slice ax n cx) wq g B b [] (AG q7 7 k1)∧Wf g F F w4 wq)
 case first =>
  go_region_with (first
   | (go_at_call 261;refine (CU _ (V4.keep (bW))).mono ?_;rintro e w5 ⟨rfl,b5⟩;have b45:Below w4 w4 w5:=(bW);have H5:=H4.keep b45)
   | (go_at_call 260;refine (D5 F _ g B b [] k1 7 q7 w5 H5).mono ?_;rintro e w6 ⟨rfl,H6,W6⟩))
  all_goals
   go_wp2_with fail
   go_meet
   case rel=>exact ⟨H6,(Wf.of_below b45).trans W6⟩
 case rest =>
  obtain ⟨H5,W2⟩:=hcut
  obtain ⟨w5,hw5⟩:∃ x,x=wc:=⟨_,rfl⟩
  subst hw5
  have WX:=WX.trans W2
  obtain ⟨PE,nE⟩:=W2.box PE nE
  obtain ⟨Q,nQ⟩:=W2.box Q nQ
  clear p0 p1 p2 p3 p4 p5 c2 P4 CU H4 V4 W2
  obtain ⟨k2,hk2⟩:∃ k:Int,k=AG q7 7 k1:=⟨_,rfl⟩
  rw [← hk2] at H5
  have HK2:=lH hk2
  clear hk2
  have c5:=PE.cell 5 _ rfl
  have x2:=Q.cell 2 _ rfl
  go_wp2_with fail
  refine (D5 F _ g B b [] _ 8 _ _ H5).mono ?_
  rintro e w7 ⟨rfl,H6,W6⟩
  have WX:=WX.trans W6
  obtain ⟨PE,nE⟩:=W6.box PE nE
  obtain ⟨Q,nQ⟩:=W6.box Q nQ
  clear c5 x2 H5 W6
  have H5:=H6
  clear H6
  rw [show AG (decide (A.loc<fe)) 8 k2=cd by rw [HCODE.out,HK2.out,HK1.out]] at H5
  obtain ⟨yq,zq,lq,PQ,VQ,-⟩:=H5.cells
  have pq:=PQ.cell 7 _ rfl
  by_cases h0:cd=0;rotate_left
  ·have e7:(cd != 0)=true:=by simp [h0]
   have H0:=lH h0
   clear h0
   go_wp2
   (try simp only [Exit.inBlock,Exit.then])
   refine bodyPost_ret (results_none rfl _ _ _) rfl ?_
   exact ⟨rfl,F,_,b,[],H5,WX,fun e=>absurd e H0.out⟩
  have hcA:=HCODE.out.symm
  rw [h0] at hcA
  obtain ⟨r8,hcB⟩:=Bg hcA dC
  obtain ⟨r7,hcC⟩:=Bg hcB dC
  obtain ⟨r6,-⟩:=Bg hcC dC
  have r8:=of_decide_eq_false r8
  have hc1:AI b.chans ch=true:=by simpa using r6
  have hov:=HOV.out
  rw [hc1,Bool.true_and] at hov
  have hov:=of_decide_eq_false hov
  clear hcA hcB hcC HCODE HK1 HK2 r7 r6
  subst h0
  have e7:((0:Int) != 0)=false:=rfl
  obtain ⟨i,a,h1,h2,h3,h4,h5⟩:=EH hc1
  have e1:A=a:=HA.out.trans h4
  subst e1
  have hnd:(b.chans.map (fun c=>c.id)).Nodup:=by
   rw [List.nodup_iff_pairwise_ne,List.pairwise_map]
   exact List.Pairwise.imp (fun h=>by omega) hb.so
  have hcut:=M5 (fun c=>c.id) b.chans i A hnd h2
  simp only [h3] at hcut
  obtain ⟨L,hL⟩:∃ L,L=b.chans.filter (fun c => !decide (c.id=ch)):=⟨_,rfl⟩
  rw [← hL] at hcut
  have HCUT:=lH hcut
  have HL:=lH hL
  clear hcut hL hnd h4 hc1
  obtain ⟨ay4,m4,cy4,rfl,-,-⟩:=VS.form VQ.htlcs
  obtain ⟨az4,q4,cz4,rfl,-,-⟩:=VS.form VQ.circles
  have CA:=Jy (.slice ax n cx) (.slice ay4 m4 cy4) (.slice az4 q4 cz4) b ch
  rw [h1] at CA
  obtain ⟨p0,p1,p2,p3,p4,p5⟩:=PQ.c6
  have c2:=PE.cell 2 _ rfl
  go_upto_region 5 with fail
  obtain ⟨w6,hw6⟩:∃ x,x=w7:=⟨_,rfl⟩
  rw [← hw6] at H5 WX PE Q PQ VQ pq p0 p1 p2 p3 p4 p5 c2 ⊢
  clear hw6
  go_cut [5] (fun v wq=>v = .int .i64 (i:Int)∧Below w6 w6 wq)
  case first =>
   go_region_with (go_at_call 142;refine (CA _ (VQ.keep (bW))).mono ?_;rintro e w8 ⟨rfl,b8⟩)
   all_goals
    go_wp2_with fail
    go_meet
    case rel=>exact ⟨rfl,bW⟩
  case rest =>
   obtain ⟨rfl,b68⟩:=hcut
   obtain ⟨wz,hwz⟩:∃ x,x=wc:=⟨_,rfl⟩
   subst hwz
   have H5:=H5.keep b68
   have PE:=PE.keep b68
   have Q:=Q.keep b68
   have WX:=WX.trans (Wf.of_below b68)
   clear p0 p1 p2 p3 p4 p5 c2 PQ VQ pq CA b68
   obtain ⟨ar,nr,cr,hxe,p3,hnr,hncr,OR,VR,HR⟩:=H5.cn
   simp only [Value.slice.injEq] at hxe
   obtain ⟨rfl,rfl,rfl⟩:=hxe
   have hlt:i<n:=by omega
   have hPn:∃ gx,ax=some ⟨gx,0,none⟩:=by
    rcases OR.2 with ⟨h,_⟩ | ⟨g',cap',cur,h,_⟩
    ·simp at h;omega
    simp at h;exact ⟨g',h.1⟩
   obtain ⟨gx,rfl⟩:=hPn
   have P2:∃ y z l,Bx wz g [b.tick,b.next,b.wallet, .slice (some ⟨gx,0,none⟩) n cx,y,z,l,I0]:=by
    obtain ⟨y,z,l,P,-,-⟩:=H5.cells
    exact ⟨y,z,l,P⟩
   obtain ⟨yp,zp,lp,P2⟩:=P2
   have hic:i≤cx:=by omega
   have hi1':(0:Int)≤(i:Int)+1:=by omega
   have hi2':(i:Int)+1≤(n:Int):=by omega
   have hwi:IntKind.i64.wrap ((i:Int)+1)=(i:Int)+1:=by rw [IntKind.wrap_i64];omega
   have hfz:=P2.fz 3 AF
   have hPl:=P2.lt
   have VT:=fun w' (hw:Below wz wz w')=>VS.tk (VR.keep hw) (k:=i) oM
   have VD:=fun w' (hw:Below wz wz w') (a':Option Addr) (ha:i+1<cx→a'=some ⟨gx,0+(i+1)*7,none⟩)=>VS.drop (VR.keep hw) (k:=i+1) oM ha
   go_upto_region 6 with fail
   go_cut [] (fun wq=>∃ F' x',Wk F' x' wq g B {b with chans:=L} [] 0∧Wf g F F' wz wq)
   case first =>
    have OKS:=VR.oks
    obtain ⟨L1,hL1⟩:∃ l,l=b.chans.take i:=⟨_,rfl⟩
    obtain ⟨L2,hL2⟩:∃ l,l=b.chans.drop (i+1):=⟨_,rfl⟩
    have hl1:L1.length=i:=by rw [hL1,List.length_take];omega
    have hl2:L2.length≤60:=by rw [hL2,List.length_drop];omega
    have hok:∀ y∈L1 ++ L2,y.ok:=fun y hy=>by
     rcases List.mem_append.1 hy with hy | hy
     ·rw [hL1] at hy;exact OKS y (List.mem_of_mem_take hy)
     rw [hL2] at hy;exact OKS y (List.mem_of_mem_drop hy)
    have hLL:L1 ++ L2=L:=by rw [hL1,hL2];exact HCUT.out
    rw [← hL1] at VT
    rw [← hL2] at VD
    have HOK:=lH hok
    have HLL:=lH hLL
    have HL1:=lH hl1
    clear OKS hok hLL hL1 hL2 hl1
    refine wp_region_noPanic ?_
    refine II (S:=fun w'=>w'.cell? ⟨g,3,none⟩=some (.slice (some ⟨gx,0,none⟩) n cx)) (last:=21) kR ?_ (fun hHeld => ?_)
    ·(try dsimp only)
     go_keep
    refine tP 0 ?_
    refine tP 1 ?_
    refine tP 2 ?_
    refine tP 3 ?_
    refine tP 4 ?_
    refine tP 5 ?_
    refine tP 6 ?_
    refine tP 7 ?_
    refine tP 9 ?_
    refine tP 10 ?_
    refine tP 11 ?_
    refine tP 12 ?_
    refine tP 13 ?_
    refine tP 14 ?_
    refine tP 15 ?_
    refine tP 16 ?_
    refine tR 8 fun K hK => ?_
    refine Dc D4 Tryz.underlying50 rfl dC dC (fun _=>rfl) ER rfl _ _ rfl wz (.slice none 0 0) [] rfl (AC.nil _ _) _ L1 rfl (VT _ (bW)) sM (by have:=HL1.out;omega) (by first | exact Nat.le_refl _ | (simp;done)) ?_
    intro v8 w8 o8 b8 g8
    rw [List.nil_append] at o8
    obtain ⟨a8,c8,rfl,-⟩:=AC.of (ok:=fun _=>True) o8 (fun _ _=>trivial)
    have B8:Below wz wz w8:=Below.trans (bW) b8
    have P8:=P2.keepL B8 hPl
    have p8:=P8.cell 3 _ rfl
    have z8:=P8.fz 3 AF
    refine sP hK fun hHeld => ?_
    clear hK K
    refine tR 17 fun K hK => ?_
    refine Dc D4 Tryz.underlying50 rfl dC dC (fun _=>rfl) ER rfl _ _ rfl wz (.slice a8 L1.length c8) L1 rfl o8 _ L2 rfl (VD _ (bW) _ (by intro hlt;rw [if_neg oM];simp)) (by have:=HL1.out;omega) oM B8.size ?_
    intro v9 w9 o9 b9 g9
    rw [HLL.out] at o9
    obtain ⟨a9,c9,rfl,-⟩:=AC.of (ok:=fun _=>True) o9 (fun _ _=>trivial)
    have B9:Below wz wz w9:=Below.trans B8 b9
    have P9:=P2.keepL B9 hPl
    have p9:=P9.cell 3 _ rfl
    have z9:=P9.fz 3 AF
    refine sP hK fun hHeld => ?_
    clear hK K
    refine tP 18 ?_
    refine tP 19 ?_
    refine tP 20 ?_
    refine tR 21 fun K hK => ?_
    go_simp
    refine hK.out _ _ (Or.inl rfl) (fun hHeld => ?_)
    clear hK K
    try simp only [Act.put,List.setIfInBounds_toArray,List.set_cons_zero,List.set_cons_succ]
    refine uy kR ?_ _
    refine NoPanic.normal ?_
    obtain ⟨F',FK,FW⟩:=HR w9 _ L (Ex.of_below B9 _) (AC.le o9 (by have:=H5.lt;omega)) (fun k hk=>Or.inr (Cj o9 k hk).1) (by rw [← HLL.out];exact HOK.out)
    try go_wp2_with fail
    all_goals
     go_meet
     case rel=>exact ⟨F',_,FK,FW⟩
   case rest =>
    obtain ⟨F',x',H6,W6⟩:=hcut
    obtain ⟨w8,hw8⟩:∃ x,x=wc:=⟨_,rfl⟩
    subst hw8
    clear H5 HR OR VR P2 hfz hPl VT VD p3
    have H5:=H6
    obtain ⟨PE,nE⟩:=W6.box PE nE
    have WX:=WX.trans W6
    obtain ⟨Q,nQ⟩:=W6.box Q nQ
    clear H6 W6
    have hwlt:=hb.wallet
    unfold Am at hwlt
    have c5:=PE.cell 5 _ rfl
    have x2:=Q.cell 2 _ rfl
    obtain ⟨yp,zp,lp,PP,-,-⟩:=H5.cells
    have p2:=PP.cell 2 _ rfl
    have zr:=PP.fz 2 AF
    have hwr2:IntKind.i64.wrap (A.loc - fe)=A.loc - fe:=by rw [IntKind.wrap_i64];omega
    have hwr3:IntKind.i64.wrap (b.wallet+(A.loc - fe))=b.wallet+(A.loc - fe):=by rw [IntKind.wrap_i64];omega
    have FIN:=H5.wallet (b.wallet+(A.loc - fe)) uI
    have FW:=FIN.2.trans (Wf.of_below (Below.drew (Below.refl _ _)))
    have FK:=FIN.1.keep (Below.drew (Below.refl _ _))
    obtain ⟨PE',nE'⟩:=FW.box PE nE
    obtain ⟨Q',nQ'⟩:=FW.box Q nQ
    have WX':=WX.trans FW
    clear FIN FW H5 PE nE Q nQ WX
    go_upto_region 7 with fail
    go_cut [] (fun wq=>wq=World.drew (World.setCell w8 ⟨g,2,none⟩ (Value.int IntKind.i64 (b.wallet+(A.loc - fe)))))
    case first =>
     go_region_with (fail)
     all_goals
      go_wp2_with fail
      go_meet
      case rel=>rfl
    case' rest =>
     obtain ⟨wb2,hwn⟩:∃ x,x=wc:=⟨_,rfl⟩
     subst hwn
     rw [← hcut] at FK PE' Q' WX'
     clear hcut
    have H5:=FK
    have PE:=PE'
    have nE:=nE'
    have Q:=Q'
    have nQ:=nQ'
    have WX:=WX'
    clear FK PE' nE' Q' nQ' WX' p2 zr c5 x2 PP
    have LI:=LsIn.nil
    have c5:=PE.cell 5 _ rfl
    have x2:=Q.cell 2 _ rfl
    obtain ⟨hg,LI⟩:=LsIn.add LI (x:=⟨1,0,A.loc - fe⟩) sM Cq uL sM
    go_wp2_with fail
    refine (DJ _ _ g B _ _ 0 1 0 (A.loc - fe) _ H5 hg).mono ?_
    rintro e w9 ⟨rfl,F9,H9,W9⟩
    obtain ⟨PE,nE⟩:=W9.box PE nE
    obtain ⟨Q,nQ⟩:=W9.box Q nQ
    have H5:=H9
    have WX:=WX.trans W9
    clear H9 W9 hg c5 x2
    have c5:=PE.cell 5 _ rfl
    obtain ⟨hg,LI⟩:=LsIn.add LI (x:=⟨5,0,fe⟩) sM Cq uL sM
    go_wp2_with fail
    refine (DJ _ _ g B _ _ 0 5 0 (fe) _ H5 hg).mono ?_
    rintro e w9 ⟨rfl,F9,H9,W9⟩
    obtain ⟨PE,nE⟩:=W9.box PE nE
    obtain ⟨Q,nQ⟩:=W9.box Q nQ
    have H5:=H9
    have WX:=WX.trans W9
    clear H9 W9 hg c5
    have c2:=PE.cell 2 _ rfl
    have x2:=Q.cell 2 _ rfl
    have hwr2:IntKind.i64.wrap (-A.loc) = -A.loc:=by rw [IntKind.wrap_i64];omega
    obtain ⟨hg,LI⟩:=LsIn.add LI (x:=⟨6,ch,-A.loc⟩) sM Cq uL sM
    go_wp2_with fail
    refine (DJ _ _ g B _ _ 0 6 ch (-A.loc) _ H5 hg).mono ?_
    rintro e w9 ⟨rfl,F9,H9,W9⟩
    obtain ⟨PE,nE⟩:=W9.box PE nE
    obtain ⟨Q,nQ⟩:=W9.box Q nQ
    have H5:=H9
    have WX:=WX.trans W9
    clear H9 W9 hg c2 x2
    go_wp2
    go_end0
    rw [Gb,Gy,Uv] at H5
    ·refine ⟨rfl,_,_,_,_,H5,WX,?_⟩
     try intro _
     have hdo:Al b ⟨3,ky,ch,tt,am,fe,ys⟩=({b with chans:=b.chans.filter (fun c => !decide (c.id=ch)),wallet:=b.wallet+(AM b.chans ch).loc - fe},BL [⟨1,0,(AM b.chans ch).loc - fe⟩,⟨5,0,fe⟩,⟨6,ch,-(AM b.chans ch).loc⟩]):=rfl
     rw [hdo,← HA.out,HL.out,show b.wallet+A.loc - fe=b.wallet+(A.loc - fe) by omega]
     exact ⟨rfl,rfl⟩
    all_goals simp
end Go.Proofs.YtahefgkdbecemaaGreat
