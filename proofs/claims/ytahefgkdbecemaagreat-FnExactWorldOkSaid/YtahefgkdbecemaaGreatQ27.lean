/- A payment settled (impl). -/
import Derived.Test.YtahefgkdbecemaaGreatQ7
import Derived.Test.YtahefgkdbecemaaGreatQ23
import Derived.Test.YtahefgkdbecemaaGreatQ22
import Derived.Test.YtahefgkdbecemaaGreatQ8
import Derived.BigRegion
namespace Go.Proofs.YtahefgkdbecemaaGreat
open Go.RowKit
set_option linter.unusedVariables false
set_option linter.unusedSimpArgs false
set_option maxRecDepth 100000
set_option maxHeartbeats 12800000
theorem zo (F:List Nat) (x:Value) (g B:Nat) (b:Bk) (ls:List Ln) (c0 k0 ky ch tt am fe:Int) (ys:Bool) (w:World) (H:Wk F x w g B b ls c0) (hh:Aw b ky=false):Calls Tryz.prog 176 #[.pointer (some ⟨g,0,none⟩), .agg #[k0,ky,ch,tt,am,fe,ys]] w fun e w'=>e = .returned (.tuple #[])∧Wk F x w' g B b ls (AG true 15 c0)∧Wf g F F w w':=by
 have h1:=WO hh
 clear hh
 obtain ⟨y,z,l,P,V,-⟩:=H.cells
 obtain ⟨ax,n,cx,rfl,-,-⟩:=VS.form V.chans
 obtain ⟨ay,m,cy,rfl,-,-⟩:=VS.form V.htlcs
 obtain ⟨az,q,cz,rfl,-,-⟩:=VS.form V.circles
 have PE:=bN w [k0,ky,ch,tt,am,fe,ys] 73
 have b0:=bA w [k0,ky,ch,tt,am,fe,ys] 73
 obtain ⟨ue,hue⟩:∃ u,u=w.heap.size:=⟨_,rfl⟩
 rw [← hue] at PE
 have nE:=H.fresh
 rw [← hue] at nE
 go_enter Tryz.func176,Tryz.ntmps176
 go_upto_region 1 with fail
 rw [← hue]
 generalize w.alloc (.cells #[k0,ky,ch,tt,am,fe,ys] 73)=w0 at PE b0 ⊢
 have H0:=H.keep b0
 have P0:=P.keep b0
 have V0:=V.keep b0
 have W0:Wf g F F w w0:=Wf.of_below b0
 clear b0 P V H hue
 have CA:=YH (.slice ax n cx) (.slice ay m cy) (.slice az q cz) b ky
 simp only [h1] at CA
 obtain ⟨p0,p1,p2,p3,p4,p5⟩:=P0.c6
 have c1:=PE.cell 1 _ rfl
 go_cut [4] (fun v wq=>v = .int .i64 (-1)∧Below w0 w0 wq)
 case first =>
  go_region_with (go_at_call 266;refine (CA _ (V0.keep (bW))).mono ?_;rintro e w1 ⟨rfl,b1⟩)
  all_goals
   go_wp2_with fail
   go_meet
   case rel=>exact ⟨rfl,bW⟩
 case rest =>
  obtain ⟨rfl,b01⟩:=hcut
  obtain ⟨w1,hw1⟩:∃ w1,w1=wc:=⟨_,rfl⟩
  subst hw1
  have P1:=P0.keep b01
  have PE:=PE.keep b01
  have H1:=H0.keep b01
  have V1:=V0.keep b01
  have W1:=W0.trans (Wf.of_below b01)
  clear p0 p1 p2 p3 p4 p5 c1 P0 CA H0 b01 V0 W0
  go_wp2_with fail
  refine (D5 F _ g B b ls c0 15 true w1 H1).mono ?_
  rintro e w2 ⟨rfl,H2,W2⟩
  have W3:=W1.trans W2
  go_wp2
  (try simp only [Exit.inBlock,Exit.then])
  refine bodyPost_ret (results_none rfl _ _ _) rfl ?_
  exact ⟨rfl,H2,W3⟩
theorem zu (F:List Nat) (x:Value) (g B:Nat) (b:Bk) (k0 ky ch tt am fe:Int) (ys:Bool) (w:World) (H:Wk F x w g B b [] 0) (hb:Bok b) (hh:Aw b ky=true) (hk0:k0=6):Calls Tryz.prog 176 #[.pointer (some ⟨g,0,none⟩), .agg #[k0,ky,ch,tt,am,fe,ys]] w fun e w'=>e = .returned (.tuple #[])∧∃ F',Wk F' x w' g B {b with htlcs:=b.htlcs.filter (fun h => !decide (h.key=ky)),chans:=AU (AU (AU b.chans (Ac b ky).inn (AO (Ac b ky).ain 0)) (Ac b ky).out (AO 0 (Ac b ky).aout)) (Ac b ky).inn (fun c=>{c with score:=Co c.score})} (BL [⟨3,0,(Ac b ky).aout - (Ac b ky).ain⟩,⟨6,(Ac b ky).inn,(Ac b ky).ain⟩,⟨8,(Ac b ky).out,-(Ac b ky).aout⟩]) 0∧Wf g F F' w w':=by
 subst hk0
 obtain ⟨i,h,h1,h2,h3,h4,h5⟩:=XR hh
 rw [h4]
 have HK:=hb.pk.hs h (List.mem_of_getElem? h2)
 obtain ⟨hne,hx1,hx2⟩:=HK.ap
 have hi1:=(DO b.chans _).2 hx1
 have hi2:=(DO b.chans _).2 hx2
 have hcut:=M5 (fun h=>h.key) b.htlcs i h hb.pk.ndH h2
 simp only [h3] at hcut
 obtain ⟨L,hL⟩:∃ L,L=b.htlcs.filter (fun h => !decide (h.key=ky)):=⟨_,rfl⟩
 rw [← hL] at hcut ⊢
 clear hL
 have HCUT:=lH hcut
 clear hcut hx1 hx2 hh h4
 have hso:=hb.so
 have hcks:=hb.ck
 have hsm:b.htlcs.length≤60:=hb.pk.h60
 have a1:=HK.ain
 have a2:=HK.o1
 have a3:=HK.o2
 clear HK hb
 obtain ⟨q0,q1,q2,q3,q4,q5,q6⟩:=h
 dsimp only at h3 hne hi1 hi2 a1 a2 a3 ⊢
 unfold Am at a1
 have H2:=lH h2
 clear h2 h3
 have e0:decide ((i:Int)<0)=false:=decide_eq_false oM
 obtain ⟨y,z,l,P,V,-⟩:=H.cells
 obtain ⟨ax,n,cx,rfl,-,-⟩:=VS.form V.chans
 obtain ⟨ay,m,cy,rfl,-,-⟩:=VS.form V.htlcs
 obtain ⟨az,q,cz,rfl,-,-⟩:=VS.form V.circles
 have PE:=bN w [.int .i64 6,ky,ch,tt,am,fe,ys] 73
 have b0:=bA w [.int .i64 6,ky,ch,tt,am,fe,ys] 73
 obtain ⟨ue,hue⟩:∃ u,u=w.heap.size:=⟨_,rfl⟩
 rw [← hue] at PE
 have nE:=H.fresh
 rw [← hue] at nE
 go_enter Tryz.func176,Tryz.ntmps176
 go_upto_region 1 with fail
 rw [← hue]
 generalize w.alloc (.cells #[.int .i64 6,ky,ch,tt,am,fe,ys] 73)=w0 at PE b0 ⊢
 have H0:=H.keep b0
 have P0:=P.keep b0
 have V0:=V.keep b0
 have W0:Wf g F F w w0:=Wf.of_below b0
 clear b0 P V H hue
 have CA:=YH (.slice ax n cx) (.slice ay m cy) (.slice az q cz) b ky
 simp only [h1] at CA
 obtain ⟨p0,p1,p2,p3,p4,p5⟩:=P0.c6
 have c1:=PE.cell 1 _ rfl
 go_cut [4] (fun v wq=>v=((i:Int))∧Below w0 w0 wq)
 case first =>
  go_region_with (go_at_call 266;refine (CA _ (V0.keep (bW))).mono ?_;rintro e w1 ⟨rfl,b1⟩)
  all_goals
   go_wp2_with fail
   go_meet
   case rel=>exact ⟨rfl,bW⟩
 case rest =>
  obtain ⟨rfl,b01⟩:=hcut
  obtain ⟨w1,hw1⟩:∃ w1,w1=wc:=⟨_,rfl⟩
  subst hw1
  have P1:=P0.keep b01
  have PE:=PE.keep b01
  have H1:=H0.keep b01
  have V1:=V0.keep b01
  have W1:=W0.trans (Wf.of_below b01)
  clear p0 p1 p2 p3 p4 p5 c1 P0 CA H0 b01 V0 W0
  obtain ⟨ar,nr,cr,p4,hnr,hncr,OR,VR,HR⟩:=H1.ht
  have hpp:=P1.cell 4 _ rfl
  rw [p4] at hpp
  simp only [Option.some.injEq,Value.slice.injEq] at hpp
  obtain ⟨rfl,rfl,rfl⟩:=hpp
  have hlt:i<nr:=by omega
  obtain ⟨gr,off,x',rfl,hgr,-,⟨r0,r1,r2,r3,r4,r5,r6⟩,hx,-⟩:=DC.at_ VR hlt
  have hxx:=hx.out
  rw [H2.out] at hxx
  obtain rfl:=Option.some.inj hxx
  clear hx hxx V1
  obtain ⟨rfl⟩:off=0:=by
   rcases OR.2 with ⟨h,_⟩ | ⟨g',cap',cur,h,_⟩
   ·simp at h
   simp at h;exact h.1.2
  simp only [Nat.zero_add] at r0 r1 r2 r3 r4 r5 r6
  have HNR:=lH hnr
  have hnrB:=VS.lenB VR
  clear hnr
  go_upto_region 5 with fail
  refine cW fun w2 Q b2 => ?_
  obtain ⟨uq,huq⟩:∃ u,u=w1.heap.size:=⟨_,rfl⟩
  rw [← huq] at Q ⊢
  have nQ:=H1.fresh
  rw [← huq] at nQ
  have P2:=P1.keep b2
  have PE:=PE.keep b2
  have H2x:=H1.keep b2
  have W2:=W1.trans (Wf.of_below b2)
  clear r0 r1 r2 r3 r4 r5 r6 p4 VR HR OR hgr P1 H1 b2 W1 huq
  obtain ⟨ar2,nr2,cr2,p4,hnr2,hncr2,OR,VR,HR⟩:=H2x.ht
  have hpp:ar2=some ⟨gr,0,none⟩∧nr2=nr∧cr2=cr:=by
   have:=P2.cell 4 _ rfl
   rw [p4] at this
   simpa using this
  obtain ⟨rfl,rfl,rfl⟩:=hpp
  clear hnr2
  have hic:i≤cr2:=by omega
  have hi1':(0:Int)≤(i:Int)+1:=by omega
  have hi2':(i:Int)+1≤(nr2:Int):=by omega
  have hwi:IntKind.i64.wrap ((i:Int)+1)=(i:Int)+1:=by rw [IntKind.wrap_i64];omega
  have hfz:=P2.fz 4 AF
  have hPl:=P2.lt
  have VT:=fun w' (hw:Below w2 w2 w')=>VS.tk (VR.keep hw) (k:=i) oM
  have VD:=fun w' (hw:Below w2 w2 w') (a':Option Addr) (ha:i+1<cr2→a'=some ⟨gr,0+(i+1)*7,none⟩)=>VS.drop (VR.keep hw) (k:=i+1) oM ha
  go_cut [] (fun wq=>∃ F',Wk F' (.slice ax n cx) wq g B {b with htlcs:=L} [] 0∧Wf g F F' w2 wq)
  case first =>
   have OKS:=VR.oks
   obtain ⟨L1,hL1⟩:∃ l,l=b.htlcs.take i:=⟨_,rfl⟩
   obtain ⟨L2,hL2⟩:∃ l,l=b.htlcs.drop (i+1):=⟨_,rfl⟩
   have hl1:L1.length=i:=by rw [hL1,List.length_take];omega
   have hl2:L2.length≤60:=by rw [hL2,List.length_drop];omega
   have hok:∀ y∈L1 ++ L2,y.ok:=fun y hy=>by
    rcases List.mem_append.1 hy with hy | hy
    ·rw [hL1] at hy;exact OKS y (List.mem_of_mem_take hy)
    rw [hL2] at hy;exact OKS y (List.mem_of_mem_drop hy)
   have hLL:L1 ++ L2=L:=by rw [hL1,hL2];exact HCUT.out
   rw [← hL1] at VT
   rw [← hL2] at VD
   have HOK:=lH hok
   have HLL:=lH hLL
   clear OKS hok hLL hL1 hL2
   go_region_law (first
    | ((fail_if_success (have ht:=o8));refine Dc Hz Tryz.underlying51 rfl dC dC (fun _=>rfl) JI rfl _ _ rfl w2 (.slice none 0 0) [] rfl (AC.nil _ _) _ L1 rfl (VT _ (bW)) sM oM (by first | exact Nat.le_refl _ | (simp;done)) ?_;intro v8 w8 o8 b8 g8;rw [List.nil_append] at o8;obtain ⟨a8,c8,rfl,-⟩:=AC.of (ok:=fun _=>True) o8 (fun _ _=>trivial);rw [hl1];rw [hl1] at o8;have B8:Below w2 w2 w8:=Below.trans (bW) b8;have P8:=P2.keepL B8 hPl;have p8:=P8.cell 4 _ rfl;have z8:=P8.fz 4 AF;clear b8 g8)
    | (refine Dc Hz Tryz.underlying51 rfl dC dC (fun _=>rfl) JI rfl _ _ rfl w2 (.slice a8 i c8) L1 rfl (by first | exact o8 | exact AC.drew o8 | exact AC.drewN o8 _) _ L2 rfl (VD _ (bW) _ (by intro hlt;rw [if_neg oM];simp)) oM oM (by first | exact Nat.le_refl _ | exact B8.size | (simp;exact B8.size)) ?_;intro v9 w9 o9 b9 g9;rw [HLL.out] at o9;obtain ⟨a9,c9,rfl,-⟩:=AC.of (ok:=fun _=>True) o9 (fun _ _=>trivial);have B9:Below w2 w2 w9:=Below.trans (bW) b9;have P9:=P2.keepL B9 hPl;have p9:=P9.cell 4 _ rfl;have z9:=P9.fz 4 AF;clear b9 g9))
   all_goals
    obtain ⟨F',FK,FW⟩:=HR w9 _ L (Ex.of_below B9 _) (AC.le o9 (by have:=H2x.lt;omega)) (fun k hk=>Or.inr (Cj o9 k hk).1) (by rw [← HLL.out];exact HOK.out)
    go_wp2_with fail
    all_goals
     go_meet
     case rel=>first | exact ⟨F',FK,FW⟩ | exact ⟨F',FK.keep (Below.drew (Below.refl _ _)),FW.trans (Wf.of_below (Below.drew (Below.refl _ _)))⟩
  case rest =>
   obtain ⟨F',H5,W5⟩:=hcut
   obtain ⟨PE,nE⟩:=W5.box PE nE
   obtain ⟨Q,nQ⟩:=W5.box Q nQ
   have WX:=W2.trans W5
   clear P2 H2x W2 W5 p4 VR HR OR hfz hPl VT VD
   have q1c:=Q.cell 1 _ rfl
   go_wp2_with fail
   refine (Ji F' _ g B ({b with htlcs:=L}:Bk) [] 0 q1 _ H5 hi1).mono ?_
   rintro e w6 ⟨gx1,nx1,cx1,ia,a,hxe,-,ai,aid,-,rfl,b6⟩
   simp only [Value.slice.injEq] at hxe;obtain ⟨e1,e2,e3⟩:=hxe;subst e1;subst e2;subst e3
   have H5:=H5.keep b6
   have WX:=WX.trans (Wf.of_below b6)
   have PE:=PE.keep b6
   have Q:=Q.keep b6
   clear b6 q1c
   have q2c:=Q.cell 2 _ rfl
   go_wp2_with fail
   refine (Ji F' _ g B ({b with htlcs:=L}:Bk) [] 0 q2 _ H5 hi2).mono ?_
   rintro e w7 ⟨gx2,nx2,cx2,jd,d,hxe,-,di,did,-,rfl,b6⟩
   have e1:gx1=gx2:=by (simp at hxe;omega)
   subst e1;clear hxe
   have H5:=H5.keep b6
   have WX:=WX.trans (Wf.of_below b6)
   have PE:=PE.keep b6
   have Q:=Q.keep b6
   clear b6 q2c
   have aok:=H5.oks a (List.mem_of_getElem? ai)
   have dok:=H5.oks d (List.mem_of_getElem? di)
   have ack:=hcks a (List.mem_of_getElem? ai)
   have dck:=hcks d (List.mem_of_getElem? di)
   have alo:=ack.loc
   have are:=ack.rem
   have dlo:=dck.loc
   have dre:=dck.rem
   unfold Am at alo are dlo dre
   have hq1:1≤q1∧q1≤99:=by rw [← aid];exact ack.id
   have hq2:1≤q2∧q2≤99:=by rw [← did];exact dck.id
   have c0:=PE.cell 0 _ rfl
   go_upto_region 9 with fail
   clear c0
   have AT:=H5.at ai aid hso
   have cA:_=some (Value.int IntKind.i64 (a.loc)):=AT.1 2 _ rfl
   have zA:=AT.2.1 (ia*7+2)
   have x3:=Q.cell 3 _ rfl
   have hwr1:IntKind.i64.wrap (a.loc+q3)=a.loc+q3:=by rw [IntKind.wrap_i64];omega
   have FIN:=AT.2.2 2 (.int .i64 (a.loc+q3)) (AO q3 0) dC (by simp [Cn.enc,AO]) (EG aok uI uI)
   have FW:=FIN.2.trans (Wf.of_below (Below.drew (Below.refl _ _)))
   have FK:=FIN.1.keep (Below.drew (Below.refl _ _))
   obtain ⟨PE',nE'⟩:=FW.box PE nE
   obtain ⟨Q',nQ'⟩:=FW.box Q nQ
   have WX':=WX.trans FW
   clear FIN AT FW H5 PE nE Q nQ WX
   go_cut [] (fun wq=>wq=World.drew (World.setCell w7 ⟨gx1,ia*7+2,none⟩ (Value.int IntKind.i64 (a.loc+q3))))
   case first =>
    go_region_with (fail)
    all_goals
     go_wp2_with fail
     go_meet
     case rel=>rfl
   case' rest =>
    obtain ⟨wb1,hwn⟩:∃ x,x=wc:=⟨_,rfl⟩
    subst hwn
    rw [← hcut] at FK PE' Q' WX'
    clear hcut
   have H5:=FK
   have PE:=PE'
   have nE:=nE'
   have Q:=Q'
   have nQ:=nQ'
   have WX:=WX'
   clear FK PE' nE' Q' nQ' WX' cA zA x3
   have di2:=Fw (ch:=q1) (f:=(AO q3 0)) di (by rw [did];exact hne.symm)
   go_upto_region 10 with fail
   have AT:=H5.at di2 did (D6 (fun _=>rfl) hso)
   have cA:_=some (Value.int IntKind.i64 (d.rem)):=AT.1 3 _ rfl
   have zA:=AT.2.1 (jd*7+3)
   have x4:=Q.cell 4 _ rfl
   have hwr2:IntKind.i64.wrap (d.rem+q4)=d.rem+q4:=by rw [IntKind.wrap_i64];omega
   have FIN:=AT.2.2 3 (.int .i64 (d.rem+q4)) (AO 0 q4) dC (by simp [Cn.enc,AO]) (EG dok uI uI)
   have FW:=FIN.2.trans (Wf.of_below (Below.drew (Below.refl _ _)))
   have FK:=FIN.1.keep (Below.drew (Below.refl _ _))
   obtain ⟨PE',nE'⟩:=FW.box PE nE
   obtain ⟨Q',nQ'⟩:=FW.box Q nQ
   have WX':=WX.trans FW
   clear FIN AT FW H5 PE nE Q nQ WX
   go_cut [] (fun wq=>wq=World.drew (World.setCell wb1 ⟨gx1,jd*7+3,none⟩ (Value.int IntKind.i64 (d.rem+q4))))
   case first =>
    go_region_with (fail)
    all_goals
     go_wp2_with fail
     go_meet
     case rel=>rfl
   case' rest =>
    obtain ⟨wb2,hwn⟩:∃ x,x=wc:=⟨_,rfl⟩
    subst hwn
    rw [← hcut] at FK PE' Q' WX'
    clear hcut
   have H5:=FK
   have PE:=PE'
   have nE:=nE'
   have Q:=Q'
   have nQ:=nQ'
   have WX:=WX'
   clear FK PE' nE' Q' nQ' WX' cA zA x4
   have ai2:=Fw (ch:=q2) (f:=(AO 0 q4)) (LE (ch:=q1) (f:=(AO q3 0)) ai aid) (by show a.id≠q2;rw [aid];exact hne)
   have CS:=fun w=>xu a.score w aok.2.2.2.2.2.2
   have AT:=H5.at ai2 aid (D6 (fun _=>rfl) (D6 (fun _=>rfl) hso))
   have cA:_=some (Value.int IntKind.i64 (a.score)):=AT.1 6 _ rfl
   have zA:=AT.2.1 (ia*7+6)
   have FIN:=AT.2.2 6 (Co a.score) (fun c=>{c with score:=Co c.score}) dC (by simp [Cn.enc,AO]) (MV (EG aok uI uI) (show AE (Co a.score) from YC (by have:=ack.score;omega)))
   have FW:=FIN.2
   have FK:=FIN.1
   obtain ⟨PE',nE'⟩:=FW.box PE nE
   obtain ⟨Q',nQ'⟩:=FW.box Q nQ
   have WX':=WX.trans FW
   clear FIN AT FW H5 PE nE Q nQ WX
   go_wp2_with fail
   refine (CS _).mono ?_
   rintro e w8 ⟨rfl,rfl⟩
   go_upto_region 12 with fail
   generalize World.setCell wb2 ⟨gx1,ia*7+6,none⟩ (Value.int IntKind.i64 (Co a.score))=wb3 at FK PE' Q' WX' ⊢
   have H5:=FK
   have PE:=PE'
   have nE:=nE'
   have Q:=Q'
   have nQ:=nQ'
   have WX:=WX'
   clear FK PE' nE' Q' nQ' WX' cA zA
   have LI:=LsIn.nil
   have x4:=Q.cell 4 _ rfl
   have x3:=Q.cell 3 _ rfl
   obtain ⟨hg,LI⟩:=LsIn.add LI (x:=⟨3,0,q4 - q3⟩) sM Cq uL sM
   go_wp2_with fail
   refine (DJ _ _ g B _ _ 0 3 0 (q4 - q3) _ H5 hg).mono ?_
   rintro e w9 ⟨rfl,F9,H9,W9⟩
   obtain ⟨PE,nE⟩:=W9.box PE nE
   obtain ⟨Q,nQ⟩:=W9.box Q nQ
   have H5:=H9
   have WX:=WX.trans W9
   clear H9 W9 hg x4 x3
   have x1:=Q.cell 1 _ rfl
   have x3:=Q.cell 3 _ rfl
   obtain ⟨hg,LI⟩:=LsIn.add LI (x:=⟨6,q1,q3⟩) sM Cq uL sM
   go_wp2_with fail
   refine (DJ _ _ g B _ _ 0 6 q1 (q3) _ H5 hg).mono ?_
   rintro e w9 ⟨rfl,F9,H9,W9⟩
   obtain ⟨PE,nE⟩:=W9.box PE nE
   obtain ⟨Q,nQ⟩:=W9.box Q nQ
   have H5:=H9
   have WX:=WX.trans W9
   clear H9 W9 hg x1 x3
   have x2:=Q.cell 2 _ rfl
   have x4:=Q.cell 4 _ rfl
   obtain ⟨hg,LI⟩:=LsIn.add LI (x:=⟨8,q2,-q4⟩) sM Cq uL sM
   go_wp2_with fail
   refine (DJ _ _ g B _ _ 0 8 q2 (-q4) _ H5 hg).mono ?_
   rintro e w9 ⟨rfl,F9,H9,W9⟩
   obtain ⟨PE,nE⟩:=W9.box PE nE
   obtain ⟨Q,nQ⟩:=W9.box Q nQ
   have H5:=H9
   have WX:=WX.trans W9
   clear H9 W9 hg x2 x4
   go_wp2
   go_end0
   refine ⟨rfl,_,?_,WX⟩
   rw [Gb,Gy,Uv] at H5
   ·exact H5
   all_goals simp
theorem A0A (F:List Nat) (x:Value) (g B:Nat) (b:Bk) (k0 ky ch tt am fe:Int) (ys:Bool) (w:World) (H:Wk F x w g B b [] 0) (hb:Bok b) (hh:Aw b ky=true) (hk0:k0=7):Calls Tryz.prog 176 #[.pointer (some ⟨g,0,none⟩), .agg #[k0,ky,ch,tt,am,fe,ys]] w fun e w'=>e = .returned (.tuple #[])∧∃ F',Wk F' x w' g B {b with htlcs:=b.htlcs.filter (fun h => !decide (h.key=ky)),chans:=AU (AU (AU b.chans (Ac b ky).inn (AO 0 (Ac b ky).ain)) (Ac b ky).out (AO (Ac b ky).aout 0)) (Ac b ky).inn (fun c=>{c with score:=Ch c.score})} (BL [⟨6,(Ac b ky).out,(Ac b ky).aout⟩,⟨8,(Ac b ky).out,-(Ac b ky).aout⟩]) 0∧Wf g F F' w w':=by
 subst hk0
 obtain ⟨i,h,h1,h2,h3,h4,h5⟩:=XR hh
 rw [h4]
 have HK:=hb.pk.hs h (List.mem_of_getElem? h2)
 obtain ⟨hne,hx1,hx2⟩:=HK.ap
 have hi1:=(DO b.chans _).2 hx1
 have hi2:=(DO b.chans _).2 hx2
 have hcut:=M5 (fun h=>h.key) b.htlcs i h hb.pk.ndH h2
 simp only [h3] at hcut
 obtain ⟨L,hL⟩:∃ L,L=b.htlcs.filter (fun h => !decide (h.key=ky)):=⟨_,rfl⟩
 rw [← hL] at hcut ⊢
 clear hL
 have HCUT:=lH hcut
 clear hcut hx1 hx2 hh h4
 have hso:=hb.so
 have hcks:=hb.ck
 have hsm:b.htlcs.length≤60:=hb.pk.h60
 have a1:=HK.ain
 have a2:=HK.o1
 have a3:=HK.o2
 clear HK hb
 obtain ⟨q0,q1,q2,q3,q4,q5,q6⟩:=h
 dsimp only at h3 hne hi1 hi2 a1 a2 a3 ⊢
 unfold Am at a1
 have H2:=lH h2
 clear h2 h3
 have e0:decide ((i:Int)<0)=false:=decide_eq_false oM
 obtain ⟨y,z,l,P,V,-⟩:=H.cells
 obtain ⟨ax,n,cx,rfl,-,-⟩:=VS.form V.chans
 obtain ⟨ay,m,cy,rfl,-,-⟩:=VS.form V.htlcs
 obtain ⟨az,q,cz,rfl,-,-⟩:=VS.form V.circles
 have PE:=bN w [.int .i64 7,ky,ch,tt,am,fe,ys] 73
 have b0:=bA w [.int .i64 7,ky,ch,tt,am,fe,ys] 73
 obtain ⟨ue,hue⟩:∃ u,u=w.heap.size:=⟨_,rfl⟩
 rw [← hue] at PE
 have nE:=H.fresh
 rw [← hue] at nE
 go_enter Tryz.func176,Tryz.ntmps176
 go_upto_region 1 with fail
 rw [← hue]
 generalize w.alloc (.cells #[.int .i64 7,ky,ch,tt,am,fe,ys] 73)=w0 at PE b0 ⊢
 have H0:=H.keep b0
 have P0:=P.keep b0
 have V0:=V.keep b0
 have W0:Wf g F F w w0:=Wf.of_below b0
 clear b0 P V H hue
 have CA:=YH (.slice ax n cx) (.slice ay m cy) (.slice az q cz) b ky
 simp only [h1] at CA
 obtain ⟨p0,p1,p2,p3,p4,p5⟩:=P0.c6
 have c1:=PE.cell 1 _ rfl
 go_cut [4] (fun v wq=>v=((i:Int))∧Below w0 w0 wq)
 case first =>
  go_region_with (go_at_call 266;refine (CA _ (V0.keep (bW))).mono ?_;rintro e w1 ⟨rfl,b1⟩)
  all_goals
   go_wp2_with fail
   go_meet
   case rel=>exact ⟨rfl,bW⟩
 case rest =>
  obtain ⟨rfl,b01⟩:=hcut
  obtain ⟨w1,hw1⟩:∃ w1,w1=wc:=⟨_,rfl⟩
  subst hw1
  have P1:=P0.keep b01
  have PE:=PE.keep b01
  have H1:=H0.keep b01
  have V1:=V0.keep b01
  have W1:=W0.trans (Wf.of_below b01)
  clear p0 p1 p2 p3 p4 p5 c1 P0 CA H0 b01 V0 W0
  obtain ⟨ar,nr,cr,p4,hnr,hncr,OR,VR,HR⟩:=H1.ht
  have hpp:=P1.cell 4 _ rfl
  rw [p4] at hpp
  simp only [Option.some.injEq,Value.slice.injEq] at hpp
  obtain ⟨rfl,rfl,rfl⟩:=hpp
  have hlt:i<nr:=by omega
  obtain ⟨gr,off,x',rfl,hgr,-,⟨r0,r1,r2,r3,r4,r5,r6⟩,hx,-⟩:=DC.at_ VR hlt
  have hxx:=hx.out
  rw [H2.out] at hxx
  obtain rfl:=Option.some.inj hxx
  clear hx hxx V1
  obtain ⟨rfl⟩:off=0:=by
   rcases OR.2 with ⟨h,_⟩ | ⟨g',cap',cur,h,_⟩
   ·simp at h
   simp at h;exact h.1.2
  simp only [Nat.zero_add] at r0 r1 r2 r3 r4 r5 r6
  have HNR:=lH hnr
  have hnrB:=VS.lenB VR
  clear hnr
  go_upto_region 5 with fail
  refine cW fun w2 Q b2 => ?_
  obtain ⟨uq,huq⟩:∃ u,u=w1.heap.size:=⟨_,rfl⟩
  rw [← huq] at Q ⊢
  have nQ:=H1.fresh
  rw [← huq] at nQ
  have P2:=P1.keep b2
  have PE:=PE.keep b2
  have H2x:=H1.keep b2
  have W2:=W1.trans (Wf.of_below b2)
  clear r0 r1 r2 r3 r4 r5 r6 p4 VR HR OR hgr P1 H1 b2 W1 huq
  obtain ⟨ar2,nr2,cr2,p4,hnr2,hncr2,OR,VR,HR⟩:=H2x.ht
  have hpp:ar2=some ⟨gr,0,none⟩∧nr2=nr∧cr2=cr:=by
   have:=P2.cell 4 _ rfl
   rw [p4] at this
   simpa using this
  obtain ⟨rfl,rfl,rfl⟩:=hpp
  clear hnr2
  have hic:i≤cr2:=by omega
  have hi1':(0:Int)≤(i:Int)+1:=by omega
  have hi2':(i:Int)+1≤(nr2:Int):=by omega
  have hwi:IntKind.i64.wrap ((i:Int)+1)=(i:Int)+1:=by rw [IntKind.wrap_i64];omega
  have hfz:=P2.fz 4 AF
  have hPl:=P2.lt
  have VT:=fun w' (hw:Below w2 w2 w')=>VS.tk (VR.keep hw) (k:=i) oM
  have VD:=fun w' (hw:Below w2 w2 w') (a':Option Addr) (ha:i+1<cr2→a'=some ⟨gr,0+(i+1)*7,none⟩)=>VS.drop (VR.keep hw) (k:=i+1) oM ha
  go_cut [] (fun wq=>∃ F',Wk F' (.slice ax n cx) wq g B {b with htlcs:=L} [] 0∧Wf g F F' w2 wq)
  case first =>
   have OKS:=VR.oks
   obtain ⟨L1,hL1⟩:∃ l,l=b.htlcs.take i:=⟨_,rfl⟩
   obtain ⟨L2,hL2⟩:∃ l,l=b.htlcs.drop (i+1):=⟨_,rfl⟩
   have hl1:L1.length=i:=by rw [hL1,List.length_take];omega
   have hl2:L2.length≤60:=by rw [hL2,List.length_drop];omega
   have hok:∀ y∈L1 ++ L2,y.ok:=fun y hy=>by
    rcases List.mem_append.1 hy with hy | hy
    ·rw [hL1] at hy;exact OKS y (List.mem_of_mem_take hy)
    rw [hL2] at hy;exact OKS y (List.mem_of_mem_drop hy)
   have hLL:L1 ++ L2=L:=by rw [hL1,hL2];exact HCUT.out
   rw [← hL1] at VT
   rw [← hL2] at VD
   have HOK:=lH hok
   have HLL:=lH hLL
   clear OKS hok hLL hL1 hL2
   go_region_law (first
    | ((fail_if_success (have ht:=o8));refine Dc Hz Tryz.underlying51 rfl dC dC (fun _=>rfl) JI rfl _ _ rfl w2 (.slice none 0 0) [] rfl (AC.nil _ _) _ L1 rfl (VT _ (bW)) sM oM (by first | exact Nat.le_refl _ | (simp;done)) ?_;intro v8 w8 o8 b8 g8;rw [List.nil_append] at o8;obtain ⟨a8,c8,rfl,-⟩:=AC.of (ok:=fun _=>True) o8 (fun _ _=>trivial);rw [hl1];rw [hl1] at o8;have B8:Below w2 w2 w8:=Below.trans (bW) b8;have P8:=P2.keepL B8 hPl;have p8:=P8.cell 4 _ rfl;have z8:=P8.fz 4 AF;clear b8 g8)
    | (refine Dc Hz Tryz.underlying51 rfl dC dC (fun _=>rfl) JI rfl _ _ rfl w2 (.slice a8 i c8) L1 rfl (by first | exact o8 | exact AC.drew o8 | exact AC.drewN o8 _) _ L2 rfl (VD _ (bW) _ (by intro hlt;rw [if_neg oM];simp)) oM oM (by first | exact Nat.le_refl _ | exact B8.size | (simp;exact B8.size)) ?_;intro v9 w9 o9 b9 g9;rw [HLL.out] at o9;obtain ⟨a9,c9,rfl,-⟩:=AC.of (ok:=fun _=>True) o9 (fun _ _=>trivial);have B9:Below w2 w2 w9:=Below.trans (bW) b9;have P9:=P2.keepL B9 hPl;have p9:=P9.cell 4 _ rfl;have z9:=P9.fz 4 AF;clear b9 g9))
   all_goals
    obtain ⟨F',FK,FW⟩:=HR w9 _ L (Ex.of_below B9 _) (AC.le o9 (by have:=H2x.lt;omega)) (fun k hk=>Or.inr (Cj o9 k hk).1) (by rw [← HLL.out];exact HOK.out)
    go_wp2_with fail
    all_goals
     go_meet
     case rel=>first | exact ⟨F',FK,FW⟩ | exact ⟨F',FK.keep (Below.drew (Below.refl _ _)),FW.trans (Wf.of_below (Below.drew (Below.refl _ _)))⟩
  case rest =>
   obtain ⟨F',H5,W5⟩:=hcut
   obtain ⟨PE,nE⟩:=W5.box PE nE
   obtain ⟨Q,nQ⟩:=W5.box Q nQ
   have WX:=W2.trans W5
   clear P2 H2x W2 W5 p4 VR HR OR hfz hPl VT VD
   have q1c:=Q.cell 1 _ rfl
   go_wp2_with fail
   refine (Ji F' _ g B ({b with htlcs:=L}:Bk) [] 0 q1 _ H5 hi1).mono ?_
   rintro e w6 ⟨gx1,nx1,cx1,ia,a,hxe,-,ai,aid,-,rfl,b6⟩
   simp only [Value.slice.injEq] at hxe;obtain ⟨e1,e2,e3⟩:=hxe;subst e1;subst e2;subst e3
   have H5:=H5.keep b6
   have WX:=WX.trans (Wf.of_below b6)
   have PE:=PE.keep b6
   have Q:=Q.keep b6
   clear b6 q1c
   have q2c:=Q.cell 2 _ rfl
   go_wp2_with fail
   refine (Ji F' _ g B ({b with htlcs:=L}:Bk) [] 0 q2 _ H5 hi2).mono ?_
   rintro e w7 ⟨gx2,nx2,cx2,jd,d,hxe,-,di,did,-,rfl,b6⟩
   have e1:gx1=gx2:=by (simp at hxe;omega)
   subst e1;clear hxe
   have H5:=H5.keep b6
   have WX:=WX.trans (Wf.of_below b6)
   have PE:=PE.keep b6
   have Q:=Q.keep b6
   clear b6 q2c
   have aok:=H5.oks a (List.mem_of_getElem? ai)
   have dok:=H5.oks d (List.mem_of_getElem? di)
   have ack:=hcks a (List.mem_of_getElem? ai)
   have dck:=hcks d (List.mem_of_getElem? di)
   have alo:=ack.loc
   have are:=ack.rem
   have dlo:=dck.loc
   have dre:=dck.rem
   unfold Am at alo are dlo dre
   have hq1:1≤q1∧q1≤99:=by rw [← aid];exact ack.id
   have hq2:1≤q2∧q2≤99:=by rw [← did];exact dck.id
   have c0:=PE.cell 0 _ rfl
   go_upto_region 14 with fail
   clear c0
   have AT:=H5.at ai aid hso
   have cA:_=some (Value.int IntKind.i64 (a.rem)):=AT.1 3 _ rfl
   have zA:=AT.2.1 (ia*7+3)
   have x3:=Q.cell 3 _ rfl
   have hwr3:IntKind.i64.wrap (a.rem+q3)=a.rem+q3:=by rw [IntKind.wrap_i64];omega
   have FIN:=AT.2.2 3 (.int .i64 (a.rem+q3)) (AO 0 q3) dC (by simp [Cn.enc,AO]) (EG aok uI uI)
   have FW:=FIN.2.trans (Wf.of_below (Below.drew (Below.refl _ _)))
   have FK:=FIN.1.keep (Below.drew (Below.refl _ _))
   obtain ⟨PE',nE'⟩:=FW.box PE nE
   obtain ⟨Q',nQ'⟩:=FW.box Q nQ
   have WX':=WX.trans FW
   clear FIN AT FW H5 PE nE Q nQ WX
   go_cut [] (fun wq=>wq=World.drew (World.setCell w7 ⟨gx1,ia*7+3,none⟩ (Value.int IntKind.i64 (a.rem+q3))))
   case first =>
    go_region_with (fail)
    all_goals
     go_wp2_with fail
     go_meet
     case rel=>rfl
   case' rest =>
    obtain ⟨wb1,hwn⟩:∃ x,x=wc:=⟨_,rfl⟩
    subst hwn
    rw [← hcut] at FK PE' Q' WX'
    clear hcut
   have H5:=FK
   have PE:=PE'
   have nE:=nE'
   have Q:=Q'
   have nQ:=nQ'
   have WX:=WX'
   clear FK PE' nE' Q' nQ' WX' cA zA x3
   have di2:=Fw (ch:=q1) (f:=(AO 0 q3)) di (by rw [did];exact hne.symm)
   go_upto_region 15 with fail
   have AT:=H5.at di2 did (D6 (fun _=>rfl) hso)
   have cA:_=some (Value.int IntKind.i64 (d.loc)):=AT.1 2 _ rfl
   have zA:=AT.2.1 (jd*7+2)
   have x4:=Q.cell 4 _ rfl
   have hwr4:IntKind.i64.wrap (d.loc+q4)=d.loc+q4:=by rw [IntKind.wrap_i64];omega
   have FIN:=AT.2.2 2 (.int .i64 (d.loc+q4)) (AO q4 0) dC (by simp [Cn.enc,AO]) (EG dok uI uI)
   have FW:=FIN.2.trans (Wf.of_below (Below.drew (Below.refl _ _)))
   have FK:=FIN.1.keep (Below.drew (Below.refl _ _))
   obtain ⟨PE',nE'⟩:=FW.box PE nE
   obtain ⟨Q',nQ'⟩:=FW.box Q nQ
   have WX':=WX.trans FW
   clear FIN AT FW H5 PE nE Q nQ WX
   go_cut [] (fun wq=>wq=World.drew (World.setCell wb1 ⟨gx1,jd*7+2,none⟩ (Value.int IntKind.i64 (d.loc+q4))))
   case first =>
    go_region_with (fail)
    all_goals
     go_wp2_with fail
     go_meet
     case rel=>rfl
   case' rest =>
    obtain ⟨wb2,hwn⟩:∃ x,x=wc:=⟨_,rfl⟩
    subst hwn
    rw [← hcut] at FK PE' Q' WX'
    clear hcut
   have H5:=FK
   have PE:=PE'
   have nE:=nE'
   have Q:=Q'
   have nQ:=nQ'
   have WX:=WX'
   clear FK PE' nE' Q' nQ' WX' cA zA x4
   have ai2:=Fw (ch:=q2) (f:=(AO q4 0)) (LE (ch:=q1) (f:=(AO 0 q3)) ai aid) (by show a.id≠q2;rw [aid];exact hne)
   have CS:=fun w=>yW a.score w aok.2.2.2.2.2.2
   have AT:=H5.at ai2 aid (D6 (fun _=>rfl) (D6 (fun _=>rfl) hso))
   have cA:_=some (Value.int IntKind.i64 (a.score)):=AT.1 6 _ rfl
   have zA:=AT.2.1 (ia*7+6)
   have FIN:=AT.2.2 6 (Ch a.score) (fun c=>{c with score:=Ch c.score}) dC (by simp [Cn.enc,AO]) (MV (EG aok uI uI) (show AE (Ch a.score) from YM (by have:=ack.score;omega)))
   have FW:=FIN.2
   have FK:=FIN.1
   obtain ⟨PE',nE'⟩:=FW.box PE nE
   obtain ⟨Q',nQ'⟩:=FW.box Q nQ
   have WX':=WX.trans FW
   clear FIN AT FW H5 PE nE Q nQ WX
   go_wp2_with fail
   refine (CS _).mono ?_
   rintro e w8 ⟨rfl,rfl⟩
   go_upto_region 17 with fail
   generalize World.setCell wb2 ⟨gx1,ia*7+6,none⟩ (Value.int IntKind.i64 (Ch a.score))=wb3 at FK PE' Q' WX' ⊢
   have H5:=FK
   have PE:=PE'
   have nE:=nE'
   have Q:=Q'
   have nQ:=nQ'
   have WX:=WX'
   clear FK PE' nE' Q' nQ' WX' cA zA
   have LI:=LsIn.nil
   have x2:=Q.cell 2 _ rfl
   have x4:=Q.cell 4 _ rfl
   obtain ⟨hg,LI⟩:=LsIn.add LI (x:=⟨6,q2,q4⟩) sM Cq uL sM
   go_wp2_with fail
   refine (DJ _ _ g B _ _ 0 6 q2 (q4) _ H5 hg).mono ?_
   rintro e w9 ⟨rfl,F9,H9,W9⟩
   obtain ⟨PE,nE⟩:=W9.box PE nE
   obtain ⟨Q,nQ⟩:=W9.box Q nQ
   have H5:=H9
   have WX:=WX.trans W9
   clear H9 W9 hg x2 x4
   have x2:=Q.cell 2 _ rfl
   have x4:=Q.cell 4 _ rfl
   obtain ⟨hg,LI⟩:=LsIn.add LI (x:=⟨8,q2,-q4⟩) sM Cq uL sM
   go_wp2_with fail
   refine (DJ _ _ g B _ _ 0 8 q2 (-q4) _ H5 hg).mono ?_
   rintro e w9 ⟨rfl,F9,H9,W9⟩
   obtain ⟨PE,nE⟩:=W9.box PE nE
   obtain ⟨Q,nQ⟩:=W9.box Q nQ
   have H5:=H9
   have WX:=WX.trans W9
   clear H9 W9 hg x2 x4
   go_wp2
   go_end0
   refine ⟨rfl,_,?_,WX⟩
   rw [Gb,Gy] at H5
   ·exact H5
   all_goals simp
end Go.Proofs.YtahefgkdbecemaaGreat
