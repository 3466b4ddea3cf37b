/- A channel opened (impl). -/
import Derived.Test.YtahefgkdbecemaaGreatQ7
import Derived.Test.YtahefgkdbecemaaGreatQ23
import Derived.Test.YtahefgkdbecemaaGreatQ22
import Derived.Test.YtahefgkdbecemaaGreatQ6
import Derived.Test.YtahefgkdbecemaaGreatQ8
import Derived.BigRegion
namespace Go.Proofs.YtahefgkdbecemaaGreat
open Go.RowKit
set_option linter.unusedVariables false
set_option linter.unusedSimpArgs false
set_option maxRecDepth 100000
set_option maxHeartbeats 12800000
theorem A0k (F:List Nat) (x:Value) (g B:Nat) (b:Bk) (k0 ky ch tt am fe:Int) (ys:Bool) (w:World) (H:Wk F x w g B b [] 0) (hb:Bok b) (ho:Af b ⟨2,ky,ch,tt,am,fe,ys⟩=false) (hk0:k0=2) (hch:1≤ch∧ch≤99) (ha:0≤am∧am≤1125899906842624) (hf:0≤fe∧fe≤1125899906842624):Calls Tryz.prog 172 #[.pointer (some ⟨g,0,none⟩), .agg #[k0,ky,ch,tt,am,fe,ys]] w fun e w'=>e = .returned (.tuple #[])∧Dn F g B b ⟨2,ky,ch,tt,am,fe,ys⟩ w w':=by
 subst hk0
 have hcode:=tO (b:=b) (e:=⟨2,ky,ch,tt,am,fe,ys⟩) ho rfl
 have hov:=(ES ho).2.2.1 rfl
 unfold Dn
 generalize AQ b ⟨2,ky,ch,tt,am,fe,ys⟩=cd at hcode ⊢
 dsimp only at hcode hov
 have hov:=of_decide_eq_false hov
 obtain ⟨q3,hq3⟩:∃ q,q=(AI b.chans ch || decide (20≤b.chans.length)):=⟨_,rfl⟩
 rw [← hq3] at hcode
 have HCODE:=lH hcode
 clear hcode ho
 have hcl:b.chans.length≤20:=hb.n20
 obtain ⟨y,z,l,P,V,-⟩:=H.cells
 obtain ⟨ax,n,cx,rfl,hn,-⟩:=VS.form V.chans
 obtain ⟨ay,m,cy,rfl,-,-⟩:=VS.form V.htlcs
 obtain ⟨az,q,cz,rfl,-,-⟩:=VS.form V.circles
 have HN:=lH hn
 have hnB:=VS.lenB V.chans
 clear hn
 have PE:=bN w [.int .i64 2,ky,ch,tt,am,fe,ys] 73
 have b0:=bA w [.int .i64 2,ky,ch,tt,am,fe,ys] 73
 obtain ⟨ue,hue⟩:∃ u,u=w.heap.size:=⟨_,rfl⟩
 rw [← hue] at PE
 have nE:=H.fresh
 rw [← hue] at nE
 go_enter Tryz.func172,Tryz.ntmps172
 go_upto_region 1 with fail
 rw [← hue]
 generalize w.alloc (.cells #[.int .i64 2,ky,ch,tt,am,fe,ys] 73)=w0 at PE b0 ⊢
 have H0:=H.keep b0
 have P0:=P.keep b0
 have V0:=V.keep b0
 have W0:Wf g F F w w0:=Wf.of_below b0
 clear b0 P V H hue
 have CA:=Jy (.slice ax n cx) (.slice ay m cy) (.slice az q cz) b ch
 have hneq:¬ ue=g:=fun e=>nE (by simp [e])
 obtain ⟨p0,p1,p2,p3,p4,p5⟩:=P0.c6
 have c2:=PE.cell 2 _ rfl
 go_cut [] (fun wq=>Wk F (.slice ax n cx) wq g B b [] (AG q3 3 0)∧Wf g F F w0 wq)
 case first =>
  cases hh:AI b.chans ch with
  | true =>
   obtain ⟨i,_,hi,-⟩:=EH hh
   rw [hi] at CA
   rw [hh] at hq3
   have HQ3:Hid (q3=true):=hq3
   clear hh hq3 hi
   refine wp_region_noPanic ?_
   refine wp_region_held_drew (S:=fun w'=>w'.cell? ⟨g,0,none⟩=.some b.tick∧w'.cell? ⟨g,1,none⟩=.some b.next∧w'.cell? ⟨g,2,none⟩=.some b.wallet∧w'.cell? ⟨g,3,none⟩=some (.slice ax n cx)∧w'.cell? ⟨g,4,none⟩=some (.slice ay m cy)∧w'.cell? ⟨g,5,none⟩=some (.slice az q cz)∧w'.cell? ⟨ue,2,none⟩=.some ch) kR ?_ (fun hHeld => ?_)
   ·(try dsimp only)
    go_keep
   refine tK 0 ?_
   refine tK 1 ?_
   refine tK 2 ?_
   refine tK 3 ?_
   refine tK 4 ?_
   refine tK 5 ?_
   refine tK 6 ?_
   refine tH 7 fun K hK => ?_
   go_simp
   go_at_call 142
   refine (CA _ (V0.keep (bW))).mono ?_
   rintro e w1 ⟨rfl,b1⟩
   have b01:Below w0 w0 w1:=(bW)
   have H1:=H0.keep b01
   have P1:=P0.keep b01
   have PE1:=PE.keep b01
   obtain ⟨s0,s1,s2,s3,s4,s5⟩:=P1.c6
   have p7:w1.cell? ⟨g,7,none⟩=.some I0:=P1.cell 7 _ rfl
   have f7:=P1.fz 7 AF
   have s6:=PE1.cell 2 _ rfl
   go_wp2_with fail
   refine sO hK fun hHeld => ?_
   clear hK K
   refine tK 8 ?_
   refine tK 9 ?_
   refine tN 10 ?_
   refine tN 11 ?_
   refine tN 12 ?_
   refine tN 13 ?_
   refine tN 14 ?_
   refine tN 15 ?_
   refine tN 16 ?_
   refine tK 17 ?_
   refine tH 18 fun K hK => ?_
   go_simp
   go_at_call 260
   refine (xU g 3 w1 p7 f7).mono ?_
   rintro e w2 ⟨rfl,hw2⟩
   have FC:=H1.setCode 3
   have PS:=P1.set1 7 (.int .i64 3) AF
   have QS:=PE1.otherC g 7 (.int .i64 3) hneq
   rw [hw2] at FC PS QS
   obtain ⟨s0,s1,s2,s3,s4,s5⟩:=PS.c6
   have s6:=QS.cell 2 _ rfl
   clear hw2
   go_wp2_with fail
   refine sO hK fun hHeld => ?_
   clear hK K
   refine wpAnyH_done kR ?_ _
   refine NoPanic.normal ?_
   try go_wp2_with fail
   go_meet
   case rel=>exact ⟨by rw [HQ3.out];exact FC.1,(Wf.of_below b01).trans FC.2⟩
  | false =>
   rw [IW hh] at CA
   rw [hh,Bool.false_or] at hq3
   by_cases h20:20≤n;rotate_left
   ·have HQ3:Hid (q3=false):=by unfold Hid;rw [hq3,decide_eq_false (by have:=HN.out;omega)]
    have e20:decide ((20:Int)≤(n:Int))=false:=decide_eq_false oM
    clear hh hq3
    refine wp_region_noPanic ?_
    refine wp_region_held_drew (S:=fun w'=>w'.cell? ⟨g,0,none⟩=.some b.tick∧w'.cell? ⟨g,1,none⟩=.some b.next∧w'.cell? ⟨g,2,none⟩=.some b.wallet∧w'.cell? ⟨g,3,none⟩=some (.slice ax n cx)∧w'.cell? ⟨g,4,none⟩=some (.slice ay m cy)∧w'.cell? ⟨g,5,none⟩=some (.slice az q cz)∧w'.cell? ⟨ue,2,none⟩=.some ch) kR ?_ (fun hHeld => ?_)
    ·(try dsimp only)
     go_keep
    refine tK 0 ?_
    refine tK 1 ?_
    refine tK 2 ?_
    refine tK 3 ?_
    refine tK 4 ?_
    refine tK 5 ?_
    refine tK 6 ?_
    refine tH 7 fun K hK => ?_
    go_simp
    go_at_call 142
    refine (CA _ (V0.keep (bW))).mono ?_
    rintro e w1 ⟨rfl,b1⟩
    have b01:Below w0 w0 w1:=(bW)
    have H1:=H0.keep b01
    have P1:=P0.keep b01
    have PE1:=PE.keep b01
    obtain ⟨s0,s1,s2,s3,s4,s5⟩:=P1.c6
    have p7:w1.cell? ⟨g,7,none⟩=.some I0:=P1.cell 7 _ rfl
    have f7:=P1.fz 7 AF
    have s6:=PE1.cell 2 _ rfl
    go_wp2_with fail
    refine sO hK fun hHeld => ?_
    clear hK K
    refine tK 8 ?_
    refine tK 9 ?_
    refine tK 10 ?_
    refine tK 11 ?_
    refine tK 12 ?_
    refine tK 13 ?_
    refine tK 14 ?_
    refine tK 15 ?_
    refine tK 16 ?_
    refine tK 17 ?_
    refine tH 18 fun K hK => ?_
    go_simp
    go_at_call 260
    refine (zd g 3 w1).mono ?_
    rintro e w2 ⟨rfl,rfl⟩
    go_wp2_with fail
    refine sO hK fun hHeld => ?_
    clear hK K
    refine wpAnyH_done kR ?_ _
    refine NoPanic.normal ?_
    try go_wp2_with fail
    go_meet
    case rel=>exact ⟨by rw [HQ3.out];exact H1,Wf.of_below b01⟩
   have HQ3:Hid (q3=true):=by unfold Hid;rw [hq3,decide_eq_true (by have:=HN.out;omega)]
   have e20:decide ((20:Int)≤(n:Int))=true:=decide_eq_true oM
   clear hh hq3
   refine wp_region_noPanic ?_
   refine wp_region_held_drew (S:=fun w'=>w'.cell? ⟨g,0,none⟩=.some b.tick∧w'.cell? ⟨g,1,none⟩=.some b.next∧w'.cell? ⟨g,2,none⟩=.some b.wallet∧w'.cell? ⟨g,3,none⟩=some (.slice ax n cx)∧w'.cell? ⟨g,4,none⟩=some (.slice ay m cy)∧w'.cell? ⟨g,5,none⟩=some (.slice az q cz)∧w'.cell? ⟨ue,2,none⟩=.some ch) kR ?_ (fun hHeld => ?_)
   ·(try dsimp only)
    go_keep
   refine tK 0 ?_
   refine tK 1 ?_
   refine tK 2 ?_
   refine tK 3 ?_
   refine tK 4 ?_
   refine tK 5 ?_
   refine tK 6 ?_
   refine tH 7 fun K hK => ?_
   go_simp
   go_at_call 142
   refine (CA _ (V0.keep (bW))).mono ?_
   rintro e w1 ⟨rfl,b1⟩
   have b01:Below w0 w0 w1:=(bW)
   have H1:=H0.keep b01
   have P1:=P0.keep b01
   have PE1:=PE.keep b01
   obtain ⟨s0,s1,s2,s3,s4,s5⟩:=P1.c6
   have p7:w1.cell? ⟨g,7,none⟩=.some I0:=P1.cell 7 _ rfl
   have f7:=P1.fz 7 AF
   have s6:=PE1.cell 2 _ rfl
   go_wp2_with fail
   refine sO hK fun hHeld => ?_
   clear hK K
   refine tK 8 ?_
   refine tK 9 ?_
   refine tK 10 ?_
   refine tK 11 ?_
   refine tK 12 ?_
   refine tK 13 ?_
   refine tK 14 ?_
   refine tK 15 ?_
   refine tK 16 ?_
   refine tK 17 ?_
   refine tH 18 fun K hK => ?_
   go_simp
   go_at_call 260
   refine (xU g 3 w1 p7 f7).mono ?_
   rintro e w2 ⟨rfl,hw2⟩
   have FC:=H1.setCode 3
   have PS:=P1.set1 7 (.int .i64 3) AF
   have QS:=PE1.otherC g 7 (.int .i64 3) hneq
   rw [hw2] at FC PS QS
   obtain ⟨s0,s1,s2,s3,s4,s5⟩:=PS.c6
   have s6:=QS.cell 2 _ rfl
   clear hw2
   go_wp2_with fail
   refine sO hK fun hHeld => ?_
   clear hK K
   refine wpAnyH_done kR ?_ _
   refine NoPanic.normal ?_
   try go_wp2_with fail
   go_meet
   case rel=>exact ⟨by rw [HQ3.out];exact FC.1,(Wf.of_below b01).trans FC.2⟩
 case rest =>
  obtain ⟨H5,W2⟩:=hcut
  obtain ⟨w6,hw6⟩:∃ x,x=wc:=⟨_,rfl⟩
  subst hw6
  have WX:=W0.trans W2
  obtain ⟨PE,nE⟩:=W2.box PE nE
  clear p0 p1 p2 p3 p4 p5 c2 P0 CA H0 V0 W0 W2
  obtain ⟨k1,hk1⟩:∃ k:Int,k=AG q3 3 0:=⟨_,rfl⟩
  rw [← hk1] at H5
  have HK1:=lH hk1
  clear hk1
  have c4:=PE.cell 4 _ rfl
  obtain ⟨y4,z4,l4,P4,-,-⟩:=H5.cells
  have tf:=P4.cell 2 _ rfl
  go_upto_region 2 with fail
  obtain ⟨wf,hwf⟩:∃ x,x=w6:=⟨_,rfl⟩
  rw [← hwf] at H5 WX PE c4 tf P4 ⊢
  clear hwf
  go_cut [] (fun wq=>Wk F (.slice ax n cx) wq g B b [] (AG (decide (b.wallet<am)) 4 k1)∧Wf g F F wf wq)
  case first =>
   go_region_with (go_at_call 260;refine (D5 F _ g B b [] _ 4 _ _ (H5.keep (bW))).mono ?_;rintro e w6 ⟨rfl,H6,W6⟩)
   all_goals
    go_wp2_with fail
    go_meet
    case rel=>exact ⟨H6,(Wf.of_below (bW)).trans W6⟩
  case rest =>
   clear H5
   obtain ⟨H5,W6⟩:=hcut
   obtain ⟨w7,hw7⟩:∃ x,x=wc:=⟨_,rfl⟩
   subst hw7
   obtain ⟨PE,nE⟩:=W6.box PE nE
   have WX:=WX.trans W6
   clear c4 tf W6 P4
   rw [show AG (decide (b.wallet<am)) 4 k1=cd by rw [HCODE.out,HK1.out]] at H5
   obtain ⟨yq,zq,lq,PQ,VQ,-⟩:=H5.cells
   have pq:=PQ.cell 7 _ rfl
   by_cases h0:cd=0;rotate_left
   ·have e7:(cd != 0)=true:=by simp [h0]
    have H0:=lH h0
    clear h0
    go_wp2
    (try simp only [Exit.inBlock,Exit.then])
    refine bodyPost_ret (results_none rfl _ _ _) rfl ?_
    exact ⟨rfl,F,_,b,[],H5,WX,fun e=>absurd e H0.out⟩
   have hcA:=HCODE.out.symm
   rw [h0] at hcA
   obtain ⟨r4,hcB⟩:=Bg hcA dC
   obtain ⟨r3,-⟩:=Bg hcB dC
   have r4:=of_decide_eq_false r4
   rw [hq3,Bool.or_eq_false_iff] at r3
   obtain ⟨hno,r3⟩:=r3
   have r3:=of_decide_eq_false r3
   have hno:=lH hno
   have hq3:=lH hq3
   clear hcA hcB HCODE HK1
   subst h0
   have e7:((0:Int) != 0)=false:=rfl
   have p3:=PQ.cell 3 _ rfl
   have c2:=PE.cell 2 _ rfl
   have hul:=PE.lt
   have hgl:=PQ.lt
   obtain ⟨w5,hw5⟩:∃ x,x=w7:=⟨_,rfl⟩
   rw [← hw5] at H5 WX PE PQ VQ pq p3 c2 hul hgl ⊢
   clear hw5
   have r3n:n≤19:=by have:=HN.out;omega
   go_upto_block 0 with fail
   go_cut [4] (fun i wq=>∃ k:Nat,k≤n∧i=k∧Hid (NR b.chans ch k)∧Below w5 w5 wq)
   case first =>
    go_wp2_with fail
    go_loopw [4] (fun i wr=>∃ k:Nat,k≤n∧i=k∧Hid (∀ y∈b.chans.take k,y.id<ch)∧Below w5 w5 wr) (fun i _=>n - (intOf i).toNat)
    case atStart=>exact ⟨0,Nat.zero_le _,rfl,A1L _ _,bW⟩
    case round =>
     obtain ⟨k,hk,rfl,hall,hB⟩:=hrel
     have p3:=BN hB p3
     have c2:=BN hB c2
     by_cases hlt:k<n;rotate_left
     ·have e1:decide ((k:Int)<(n:Int))=false:=decide_eq_false oM
      have hpl:Hid (NR b.chans ch k):=⟨hall.out,fun y hy=>by
       have h1:=(List.getElem?_eq_some_iff.1 hy).1
       have h2:=HN.out
       omega⟩
      go_upto_region 5 with fail
      go_quiet (fail)
      go_wp2_with fail
      go_meet
      case rel=>exact ⟨k,hk,rfl,hpl,bW⟩
     obtain ⟨gx,off,x,rfl,hgx,-,⟨d0,-,-,-,-,-,-⟩,hx,ht⟩:=Bz.at_ (VQ.keep hB).chans hlt
     have e1:decide ((k:Int)<(n:Int))=true:=decide_eq_true oM
     by_cases hxy:x.id<ch
     ·have e0:decide (x.id<ch)=true:=decide_eq_true hxy
      have hgo:=lH (A0X ht.out hall.out hxy)
      clear hx ht hxy
      go_upto_region 5 with fail
      go_quiet (fail)
      go_wp2
      go_roundw
      case rel=>exact ⟨k+1,by omega,by go_num,hgo,bW⟩
      case measure=>simp only [intOf];omega
     have e0:decide (x.id<ch)=false:=decide_eq_false hxy
     have hpl:Hid (NR b.chans ch k):=⟨hall.out,fun y hy=>by rw [hx.out] at hy;rw [← Option.some.inj hy];exact hxy⟩
     clear hx ht hxy hgx
     go_upto_region 5 with fail
     go_quiet (fail)
     go_wp2_with fail
     go_meet
     case rel=>exact ⟨k,hk,rfl,hpl,bW⟩
   case rest =>
    obtain ⟨k,hk,rfl,hpl,hB⟩:=hcut
    obtain ⟨w7,hw7⟩:∃ x,x=wc:=⟨_,rfl⟩
    subst hw7
    have H5:=H5.keep hB
    have WX:=WX.trans (Wf.of_below hB)
    have PE:=PE.keep hB
    clear VQ PQ pq p3 c2 hul hgl hB
    have c2:=PE.cell 2 _ rfl
    have c4:=PE.cell 4 _ rfl
    have c5:=PE.cell 5 _ rfl
    have hwr1:IntKind.i64.wrap (am+fe)=am+fe:=by rw [IntKind.wrap_i64];omega
    go_upto_region 8 with fail
    refine cW fun wz Q b8 => ?_
    obtain ⟨uc,huc⟩:∃ u,u=w7.heap.size:=⟨_,rfl⟩
    rw [← huc] at Q ⊢
    have nQ:=H5.fresh
    rw [← huc] at nQ
    have PE:=PE.keep b8
    have H5:=H5.keep b8
    have WX:=WX.trans (Wf.of_below b8)
    clear c2 c4 c5 b8 huc
    obtain ⟨ar,nr,cr,hxe,p3,hnr,hncr,OR,VR,HR⟩:=H5.cn
    simp only [Value.slice.injEq] at hxe
    obtain ⟨rfl,rfl,rfl⟩:=hxe
    have PQ:∃ y z l,Bx wz g [b.tick,b.next,b.wallet, .slice ax n cx,y,z,l,I0]:=by
     obtain ⟨y,z,l,P,-,-⟩:=H5.cells
     exact ⟨y,z,l,P⟩
    obtain ⟨yp,zp,lp,PP⟩:=PQ
    have zr:=PP.fz 3 AF
    have hgr:=PP.lt
    have hBw:=H5.lt.2.1
    have hgB:=H5.lt.1
    have hul:=Q.lt
    have OKS:=VR.oks
    obtain ⟨L,hL⟩:∃ l,l=A6 b.chans (⟨ch,am+fe,am,fe,0,0,0⟩:Cn):=⟨_,rfl⟩
    have hins:b.chans.take k ++ ([(⟨ch,am+fe,am,fe,0,0,0⟩:Cn)] ++ b.chans.drop k)=L:=by rw [hL];exact (zE (c:=(⟨ch,am+fe,am,fe,0,0,0⟩:Cn)) hpl.out hno.out).symm
    have hoks:∀ y∈L,y.ok:=fun y hy=>by
     rw [hL] at hy
     rcases YE _ hy with rfl | hy
     ·exact ⟨by unfold AE;dsimp only;omega,by unfold AE;dsimp only;omega,by unfold AE;dsimp only;omega,by unfold AE;dsimp only;omega,by unfold AE;dsimp only;omega,by unfold AE;dsimp only;omega,by unfold AE;dsimp only;omega⟩
     exact OKS y hy
    have HOKS:=lH hoks
    have HL:=lH hL
    obtain ⟨L1,hL1⟩:∃ l,l=b.chans.take k:=⟨_,rfl⟩
    obtain ⟨L2,hL2⟩:∃ l,l=b.chans.drop k:=⟨_,rfl⟩
    have hl1:L1.length=k:=by rw [hL1,List.length_take];have:=HN.out;omega
    have hl2:L2.length≤60:=by rw [hL2,List.length_drop];omega
    rw [← hL1,← hL2] at hins
    obtain ⟨M,hM⟩:∃ l,l=L1 ++ [(⟨ch,am+fe,am,fe,0,0,0⟩:Cn)]:=⟨_,rfl⟩
    have hMl:M.length=k+1:=by rw [hM,List.length_append,hl1];rfl
    rw [← List.append_assoc,← hM] at hins
    have HM:=lH hM
    have HL1:=lH hl1
    have HML:=lH hMl
    have HINS:=lH hins
    have VT:=fun w' (hw:Below wz wz w')=>VS.tk (VR.keep hw) (k:=k) hk
    rw [← hL1] at VT
    clear hins hoks hL hnr OKS hM hL1 hl1 hMl
    have hkI:(0:Int)≤(k:Int):=by omega
    have hkN:(k:Int)≤(n:Int):=by omega
    have hkc:k≤cx:=by omega
    have hk60:k≤60:=by have:=HN.out;omega
    go_cut [] (fun wq=>∃ F' x',Wk F' x' wq g B {b with chans:=L} [] 0∧Wf g F F' wz wq)
    case first =>
     rcases OR.2 with ⟨hnil,hzz⟩ | ⟨gx,cap,cur,hsome,-⟩
     ·simp only [Value.slice.injEq] at hnil
      obtain ⟨rfl,rfl,rfl⟩:=hnil
      obtain rfl:k=0:=by omega
      have VD:=fun w' (hw:Below wz wz w')=>VR.keep hw
      have hz:b.chans = []:=List.length_eq_zero_iff.1 (by have:=HN.out;omega)
      rw [hz,List.drop_nil] at hL2
      rw [hz,← hL2] at VD
      clear hL2 hz
      obtain ⟨q0,q1,q2,q3,q4,q5,q6⟩:=Q.c7
      refine wp_region_noPanic ?_
      refine II (S:=fun w'=>w'.cell? ⟨g,3,none⟩=some (.slice none 0 0)∧w'.cell? ⟨uc,0,none⟩=.some ch∧w'.cell? ⟨uc,1,none⟩=some (.int .i64 (am+fe))∧w'.cell? ⟨uc,2,none⟩=.some am∧w'.cell? ⟨uc,3,none⟩=.some fe∧w'.cell? ⟨uc,4,none⟩=.some I0∧w'.cell? ⟨uc,5,none⟩=.some I0∧w'.cell? ⟨uc,6,none⟩=.some I0) (last:=23) kR ?_ (fun hHeld => ?_)
      ·(try dsimp only)
       go_keep
      refine tP 0 ?_
      refine tP 1 ?_
      refine tP 2 ?_
      refine tP 3 ?_
      refine tP 4 ?_
      refine tP 5 ?_
      refine tP 6 ?_
      refine tP 7 ?_
      refine tP 9 ?_
      refine tP 12 ?_
      refine tP 13 ?_
      refine tP 14 ?_
      refine tP 15 ?_
      refine tP 16 ?_
      refine tP 17 ?_
      refine tP 18 ?_
      refine QF (rs := [8,10]) kR sM ?_
      refine LN rfl (fun K hK => ?_) ?_
      ·refine Dc D4 Tryz.underlying50 rfl dC dC (fun _=>rfl) ER rfl _ _ rfl wz (.slice none 0 0) [] rfl (AC.nil _ _) _ L1 rfl (VT _ (bW)) sM (by have:=HL1.out;omega) (by first | exact Nat.le_refl _ | (simp;done)) ?_
       intro v8 w8 o8 b8 g8
       rw [List.nil_append] at o8
       obtain ⟨a8,c8,rfl,-⟩:=AC.of (ok:=fun _=>True) o8 (fun _ _=>trivial)
       have B8:Below wz wz w8:=Below.trans (bW) b8
       have P8:=PP.keepL B8 hgr
       have Q8:=Q.keepL B8 hul
       have p8:=P8.cell 3 _ rfl
       have z8:=P8.fz 3 AF
       obtain ⟨q80,q81,q82,q83,q84,q85,q86⟩:=Q8.c7
       refine sP hK fun hHeld => ?_
       clear hK K
       refine tR 10 fun K hK => ?_
       go_simp
       refine sP hK fun hHeld => ?_
       clear hK K
       refine tR 11 fun K hK => ?_
       refine Jx D4 Tryz.underlying50 rfl dC dC (fun _=>rfl) ER rfl _ _ rfl wz (.slice a8 L1.length c8) L1 rfl (AC.alloc o8 _) _ (⟨ch,am+fe,am,fe,0,0,0⟩:Cn) rfl (BC _ _ _ rfl) (by have:=HL1.out;omega) (Nat.le_trans B8.size (Aj _ _)) ?_
       intro v9 w9 o9 g9 f9
       rw [← HM.out] at o9
       obtain ⟨a9,c9,rfl,-⟩:=AC.of (ok:=fun _=>True) o9 (fun _ _=>trivial)
       have B9:Below wz wz w9:=Below.trans (bW) ((Ex.of_grown g9).below (fun k hk=>(Cj o8 k hk).1) (Nat.le_trans B8.size (Aj _ _)))
       have P9:=PP.keepL B9 hgr
       have Q9:=Q.keepL B9 hul
       have p9:=P9.cell 3 _ rfl
       have z9:=P9.fz 3 AF
       obtain ⟨q90,q91,q92,q93,q94,q95,q96⟩:=Q9.c7
       refine sP hK fun hHeld => ?_
       clear hK K
       refine tR 19 fun K hK => ?_
       refine Dc D4 Tryz.underlying50 rfl dC dC (fun _=>rfl) ER rfl _ _ rfl wz (.slice a9 M.length c9) M rfl o9 _ L2 rfl (VD _ (bW)) (by have:=HML.out;omega) oM B9.size ?_
       intro v10 w10 o10 b10 g10
       rw [HINS.out] at o10
       obtain ⟨a10,c10,rfl,-⟩:=AC.of (ok:=fun _=>True) o10 (fun _ _=>trivial)
       have B10:Below wz wz w10:=Below.trans B9 b10
       have P10:=PP.keepL B10 hgr
       have Q10:=Q.keepL B10 hul
       have p10:=P10.cell 3 _ rfl
       have z10:=P10.fz 3 AF
       obtain ⟨q100,q101,q102,q103,q104,q105,q106⟩:=Q10.c7
       refine sP hK fun hHeld => ?_
       clear hK K
       refine tP 20 ?_
       refine tP 21 ?_
       refine tP 22 ?_
       refine tR 23 fun K hK => ?_
       go_simp
       refine hK.out _ _ (Or.inl rfl) (fun hHeld => ?_)
       clear hK K
       try simp only [Act.put,List.setIfInBounds_toArray,List.set_cons_zero,List.set_cons_succ]
       refine uy kR ?_ _
       refine NoPanic.normal ?_
       obtain ⟨F',FK,FW⟩:=HR w10 _ L (Ex.of_below B10 _) (AC.le o10 (by have:=H5.lt;omega)) (fun k hk=>Or.inr (Cj o10 k hk).1) HOKS.out
       try go_wp2_with fail
       all_goals
        go_meet
        case rel=>exact ⟨F',_,FK,FW⟩
      refine LN rfl (fun K hK => ?_) Em.nil
      go_simp
      refine sP hK fun hHeld => ?_
      clear hK K
      refine tR 8 fun K hK => ?_
      refine Dc D4 Tryz.underlying50 rfl dC dC (fun _=>rfl) ER rfl _ _ rfl wz (.slice none 0 0) [] rfl (AC.nil _ _) _ L1 rfl (VT _ (bW)) sM (by have:=HL1.out;omega) (by first | exact Nat.le_refl _ | (simp;done)) ?_
      intro v8 w8 o8 b8 g8
      rw [List.nil_append] at o8
      obtain ⟨a8,c8,rfl,-⟩:=AC.of (ok:=fun _=>True) o8 (fun _ _=>trivial)
      have B8:Below wz wz w8:=Below.trans (bW) b8
      have P8:=PP.keepL B8 hgr
      have Q8:=Q.keepL B8 hul
      have p8:=P8.cell 3 _ rfl
      have z8:=P8.fz 3 AF
      obtain ⟨q80,q81,q82,q83,q84,q85,q86⟩:=Q8.c7
      have lit:∀ j u,([ch, .int .i64 (am+fe),am,fe,I0,I0,I0]:List Value)[j]? = some u→w8.cell? ⟨wz,j,none⟩=some u:=fun j u h=>(Ex.of_grown g8).cell (BC wz.drew _ _ rfl j u h) (by simp [Value.ownBlock])
      refine sP hK fun hHeld => ?_
      clear hK K
      refine tR 11 fun K hK => ?_
      refine Jx D4 Tryz.underlying50 rfl dC dC (fun _=>rfl) ER rfl _ _ rfl wz (.slice a8 L1.length c8) L1 rfl o8 _ (⟨ch,am+fe,am,fe,0,0,0⟩:Cn) rfl lit (by have:=HL1.out;omega) B8.size ?_
      intro v9 w9 o9 g9 f9
      rw [← HM.out] at o9
      obtain ⟨a9,c9,rfl,-⟩:=AC.of (ok:=fun _=>True) o9 (fun _ _=>trivial)
      have B9:Below wz wz w9:=Below.trans (bW) ((Ex.of_grown g9).below (fun k hk=>(Cj o8 k hk).1) B8.size)
      have P9:=PP.keepL B9 hgr
      have Q9:=Q.keepL B9 hul
      have p9:=P9.cell 3 _ rfl
      have z9:=P9.fz 3 AF
      obtain ⟨q90,q91,q92,q93,q94,q95,q96⟩:=Q9.c7
      refine sP hK fun hHeld => ?_
      clear hK K
      refine tR 19 fun K hK => ?_
      refine Dc D4 Tryz.underlying50 rfl dC dC (fun _=>rfl) ER rfl _ _ rfl wz (.slice a9 M.length c9) M rfl o9 _ L2 rfl (VD _ (bW)) (by have:=HML.out;omega) oM B9.size ?_
      intro v10 w10 o10 b10 g10
      rw [HINS.out] at o10
      obtain ⟨a10,c10,rfl,-⟩:=AC.of (ok:=fun _=>True) o10 (fun _ _=>trivial)
      have B10:Below wz wz w10:=Below.trans B9 b10
      have P10:=PP.keepL B10 hgr
      have Q10:=Q.keepL B10 hul
      have p10:=P10.cell 3 _ rfl
      have z10:=P10.fz 3 AF
      obtain ⟨q100,q101,q102,q103,q104,q105,q106⟩:=Q10.c7
      refine sP hK fun hHeld => ?_
      clear hK K
      refine tP 20 ?_
      refine tP 21 ?_
      refine tP 22 ?_
      refine tR 23 fun K hK => ?_
      go_simp
      refine hK.out _ _ (Or.inl rfl) (fun hHeld => ?_)
      clear hK K
      try simp only [Act.put,List.setIfInBounds_toArray,List.set_cons_zero,List.set_cons_succ]
      refine uy kR ?_ _
      refine NoPanic.normal ?_
      obtain ⟨F',FK,FW⟩:=HR w10 _ L (Ex.of_below B10 _) (AC.le o10 (by have:=H5.lt;omega)) (fun k hk=>Or.inr (Cj o10 k hk).1) HOKS.out
      try go_wp2_with fail
      all_goals
       go_meet
       case rel=>exact ⟨F',_,FK,FW⟩
     simp only [Value.slice.injEq] at hsome
     obtain ⟨rfl,-,rfl⟩:=hsome
     have VD:=fun w' (hw:Below wz wz w') (a':Option Addr) (ha:k<cx→a'=some ⟨gx,0+k*7,none⟩)=>VS.drop (VR.keep hw) (k:=k) hk ha
     rw [← hL2] at VD
     clear hL2
     obtain ⟨q0,q1,q2,q3,q4,q5,q6⟩:=Q.c7
     refine wp_region_noPanic ?_
     refine II (S:=fun w'=>w'.cell? ⟨g,3,none⟩=some (.slice (some ⟨gx,0,none⟩) n cx)∧w'.cell? ⟨uc,0,none⟩=.some ch∧w'.cell? ⟨uc,1,none⟩=some (.int .i64 (am+fe))∧w'.cell? ⟨uc,2,none⟩=.some am∧w'.cell? ⟨uc,3,none⟩=.some fe∧w'.cell? ⟨uc,4,none⟩=.some I0∧w'.cell? ⟨uc,5,none⟩=.some I0∧w'.cell? ⟨uc,6,none⟩=.some I0) (last:=23) kR ?_ (fun hHeld => ?_)
     ·(try dsimp only)
      go_keep
     refine tP 0 ?_
     refine tP 1 ?_
     refine tP 2 ?_
     refine tP 3 ?_
     refine tP 4 ?_
     refine tP 5 ?_
     refine tP 6 ?_
     refine tP 7 ?_
     refine tP 9 ?_
     refine tP 12 ?_
     refine tP 13 ?_
     refine tP 14 ?_
     refine tP 15 ?_
     refine tP 16 ?_
     refine tP 17 ?_
     refine tP 18 ?_
     refine QF (rs := [8,10]) kR sM ?_
     refine LN rfl (fun K hK => ?_) ?_
     ·refine Dc D4 Tryz.underlying50 rfl dC dC (fun _=>rfl) ER rfl _ _ rfl wz (.slice none 0 0) [] rfl (AC.nil _ _) _ L1 rfl (VT _ (bW)) sM (by have:=HL1.out;omega) (by first | exact Nat.le_refl _ | (simp;done)) ?_
      intro v8 w8 o8 b8 g8
      rw [List.nil_append] at o8
      obtain ⟨a8,c8,rfl,-⟩:=AC.of (ok:=fun _=>True) o8 (fun _ _=>trivial)
      have B8:Below wz wz w8:=Below.trans (bW) b8
      have P8:=PP.keepL B8 hgr
      have Q8:=Q.keepL B8 hul
      have p8:=P8.cell 3 _ rfl
      have z8:=P8.fz 3 AF
      obtain ⟨q80,q81,q82,q83,q84,q85,q86⟩:=Q8.c7
      refine sP hK fun hHeld => ?_
      clear hK K
      refine tR 10 fun K hK => ?_
      go_simp
      refine sP hK fun hHeld => ?_
      clear hK K
      refine tR 11 fun K hK => ?_
      refine Jx D4 Tryz.underlying50 rfl dC dC (fun _=>rfl) ER rfl _ _ rfl wz (.slice a8 L1.length c8) L1 rfl (AC.alloc o8 _) _ (⟨ch,am+fe,am,fe,0,0,0⟩:Cn) rfl (BC _ _ _ rfl) (by have:=HL1.out;omega) (Nat.le_trans B8.size (Aj _ _)) ?_
      intro v9 w9 o9 g9 f9
      rw [← HM.out] at o9
      obtain ⟨a9,c9,rfl,-⟩:=AC.of (ok:=fun _=>True) o9 (fun _ _=>trivial)
      have B9:Below wz wz w9:=Below.trans (bW) ((Ex.of_grown g9).below (fun k hk=>(Cj o8 k hk).1) (Nat.le_trans B8.size (Aj _ _)))
      have P9:=PP.keepL B9 hgr
      have Q9:=Q.keepL B9 hul
      have p9:=P9.cell 3 _ rfl
      have z9:=P9.fz 3 AF
      obtain ⟨q90,q91,q92,q93,q94,q95,q96⟩:=Q9.c7
      refine sP hK fun hHeld => ?_
      clear hK K
      refine tR 19 fun K hK => ?_
      refine Dc D4 Tryz.underlying50 rfl dC dC (fun _=>rfl) ER rfl _ _ rfl wz (.slice a9 M.length c9) M rfl o9 _ L2 rfl (VD _ (bW) _ (by intro hlt;rw [if_neg oM];simp)) (by have:=HML.out;omega) oM B9.size ?_
      intro v10 w10 o10 b10 g10
      rw [HINS.out] at o10
      obtain ⟨a10,c10,rfl,-⟩:=AC.of (ok:=fun _=>True) o10 (fun _ _=>trivial)
      have B10:Below wz wz w10:=Below.trans B9 b10
      have P10:=PP.keepL B10 hgr
      have Q10:=Q.keepL B10 hul
      have p10:=P10.cell 3 _ rfl
      have z10:=P10.fz 3 AF
      obtain ⟨q100,q101,q102,q103,q104,q105,q106⟩:=Q10.c7
      refine sP hK fun hHeld => ?_
      clear hK K
      refine tP 20 ?_
      refine tP 21 ?_
      refine tP 22 ?_
      refine tR 23 fun K hK => ?_
      go_simp
      refine hK.out _ _ (Or.inl rfl) (fun hHeld => ?_)
      clear hK K
      try simp only [Act.put,List.setIfInBounds_toArray,List.set_cons_zero,List.set_cons_succ]
      refine uy kR ?_ _
      refine NoPanic.normal ?_
      obtain ⟨F',FK,FW⟩:=HR w10 _ L (Ex.of_below B10 _) (AC.le o10 (by have:=H5.lt;omega)) (fun k hk=>Or.inr (Cj o10 k hk).1) HOKS.out
      try go_wp2_with fail
      all_goals
       go_meet
       case rel=>exact ⟨F',_,FK,FW⟩
     refine LN rfl (fun K hK => ?_) Em.nil
     go_simp
     refine sP hK fun hHeld => ?_
     clear hK K
     refine tR 8 fun K hK => ?_
     refine Dc D4 Tryz.underlying50 rfl dC dC (fun _=>rfl) ER rfl _ _ rfl wz (.slice none 0 0) [] rfl (AC.nil _ _) _ L1 rfl (VT _ (bW)) sM (by have:=HL1.out;omega) (by first | exact Nat.le_refl _ | (simp;done)) ?_
     intro v8 w8 o8 b8 g8
     rw [List.nil_append] at o8
     obtain ⟨a8,c8,rfl,-⟩:=AC.of (ok:=fun _=>True) o8 (fun _ _=>trivial)
     have B8:Below wz wz w8:=Below.trans (bW) b8
     have P8:=PP.keepL B8 hgr
     have Q8:=Q.keepL B8 hul
     have p8:=P8.cell 3 _ rfl
     have z8:=P8.fz 3 AF
     obtain ⟨q80,q81,q82,q83,q84,q85,q86⟩:=Q8.c7
     have lit:∀ j u,([ch, .int .i64 (am+fe),am,fe,I0,I0,I0]:List Value)[j]? = some u→w8.cell? ⟨wz,j,none⟩=some u:=fun j u h=>(Ex.of_grown g8).cell (BC wz.drew _ _ rfl j u h) (by simp [Value.ownBlock])
     refine sP hK fun hHeld => ?_
     clear hK K
     refine tR 11 fun K hK => ?_
     refine Jx D4 Tryz.underlying50 rfl dC dC (fun _=>rfl) ER rfl _ _ rfl wz (.slice a8 L1.length c8) L1 rfl o8 _ (⟨ch,am+fe,am,fe,0,0,0⟩:Cn) rfl lit (by have:=HL1.out;omega) B8.size ?_
     intro v9 w9 o9 g9 f9
     rw [← HM.out] at o9
     obtain ⟨a9,c9,rfl,-⟩:=AC.of (ok:=fun _=>True) o9 (fun _ _=>trivial)
     have B9:Below wz wz w9:=Below.trans (bW) ((Ex.of_grown g9).below (fun k hk=>(Cj o8 k hk).1) B8.size)
     have P9:=PP.keepL B9 hgr
     have Q9:=Q.keepL B9 hul
     have p9:=P9.cell 3 _ rfl
     have z9:=P9.fz 3 AF
     obtain ⟨q90,q91,q92,q93,q94,q95,q96⟩:=Q9.c7
     refine sP hK fun hHeld => ?_
     clear hK K
     refine tR 19 fun K hK => ?_
     refine Dc D4 Tryz.underlying50 rfl dC dC (fun _=>rfl) ER rfl _ _ rfl wz (.slice a9 M.length c9) M rfl o9 _ L2 rfl (VD _ (bW) _ (by intro hlt;rw [if_neg oM];simp)) (by have:=HML.out;omega) oM B9.size ?_
     intro v10 w10 o10 b10 g10
     rw [HINS.out] at o10
     obtain ⟨a10,c10,rfl,-⟩:=AC.of (ok:=fun _=>True) o10 (fun _ _=>trivial)
     have B10:Below wz wz w10:=Below.trans B9 b10
     have P10:=PP.keepL B10 hgr
     have Q10:=Q.keepL B10 hul
     have p10:=P10.cell 3 _ rfl
     have z10:=P10.fz 3 AF
     obtain ⟨q100,q101,q102,q103,q104,q105,q106⟩:=Q10.c7
     refine sP hK fun hHeld => ?_
     clear hK K
     refine tP 20 ?_
     refine tP 21 ?_
     refine tP 22 ?_
     refine tR 23 fun K hK => ?_
     go_simp
     refine hK.out _ _ (Or.inl rfl) (fun hHeld => ?_)
     clear hK K
     try simp only [Act.put,List.setIfInBounds_toArray,List.set_cons_zero,List.set_cons_succ]
     refine uy kR ?_ _
     refine NoPanic.normal ?_
     obtain ⟨F',FK,FW⟩:=HR w10 _ L (Ex.of_below B10 _) (AC.le o10 (by have:=H5.lt;omega)) (fun k hk=>Or.inr (Cj o10 k hk).1) HOKS.out
     try go_wp2_with fail
     all_goals
      go_meet
      case rel=>exact ⟨F',_,FK,FW⟩
    case rest =>
     obtain ⟨F',x',H6,W6⟩:=hcut
     obtain ⟨w8,hw8⟩:∃ x,x=wc:=⟨_,rfl⟩
     subst hw8
     clear H5 HR OR VR PP zr hBw hgr p3 VT Q nQ hul
     have H5:=H6
     obtain ⟨PE,nE⟩:=W6.box PE nE
     have WX:=WX.trans W6
     clear H6 W6
     have hwlt:=hb.wallet
     unfold Am at hwlt
     have c4:=PE.cell 4 _ rfl
     obtain ⟨yp,zp,lp,PP,-,-⟩:=H5.cells
     have p2:=PP.cell 2 _ rfl
     have zr:=PP.fz 2 AF
     have hwr2:IntKind.i64.wrap (b.wallet - am)=b.wallet - am:=by rw [IntKind.wrap_i64];omega
     have FIN:=H5.wallet (b.wallet - am) uI
     have FW:=FIN.2.trans (Wf.of_below (Below.drew (Below.refl _ _)))
     have FK:=FIN.1.keep (Below.drew (Below.refl _ _))
     obtain ⟨PE',nE'⟩:=FW.box PE nE
     have WX':=WX.trans FW
     clear FIN FW H5 PE nE WX
     go_upto_region 9 with fail
     go_cut [] (fun wq=>wq=World.drew (World.setCell w8 ⟨g,2,none⟩ (Value.int IntKind.i64 (b.wallet - am))))
     case first =>
      go_region_with (fail)
      all_goals
       go_wp2_with fail
       go_meet
       case rel=>rfl
     case' rest =>
      obtain ⟨wb2,hwn⟩:∃ x,x=wc:=⟨_,rfl⟩
      subst hwn
      rw [← hcut] at FK PE' WX'
      clear hcut
     have H5:=FK
     have PE:=PE'
     have nE:=nE'
     have WX:=WX'
     clear FK PE' nE' WX' p2 zr c4 PP
     have LI:=LsIn.nil
     have c2:=PE.cell 2 _ rfl
     have c4:=PE.cell 4 _ rfl
     obtain ⟨hg,LI⟩:=LsIn.add LI (x:=⟨6,ch,am⟩) sM Cq uL sM
     go_wp2_with fail
     refine (DJ _ _ g B _ _ 0 6 ch (am) _ H5 hg).mono ?_
     rintro e w9 ⟨rfl,F9,H9,W9⟩
     obtain ⟨PE,nE⟩:=W9.box PE nE
     have H5:=H9
     have WX:=WX.trans W9
     clear H9 W9 hg c2 c4
     have c4:=PE.cell 4 _ rfl
     have hwr1:IntKind.i64.wrap (-am) = -am:=by rw [IntKind.wrap_i64];omega
     obtain ⟨hg,LI⟩:=LsIn.add LI (x:=⟨1,0,-am⟩) sM Cq uL sM
     go_wp2_with fail
     refine (DJ _ _ g B _ _ 0 1 0 (-am) _ H5 hg).mono ?_
     rintro e w9 ⟨rfl,F9,H9,W9⟩
     obtain ⟨PE,nE⟩:=W9.box PE nE
     have H5:=H9
     have WX:=WX.trans W9
     clear H9 W9 hg c4
     go_wp2
     go_end0
     rw [Gb,ws] at H5
     ·refine ⟨rfl,_,_,_,_,H5,WX,?_⟩
      try intro _
      have hdo:Al b ⟨2,ky,ch,tt,am,fe,ys⟩=({b with chans:=A6 b.chans ⟨ch,am+fe,am,fe,0,0,0⟩,wallet:=b.wallet - am},BL [⟨1,0,-am⟩,⟨6,ch,am⟩]):=rfl
      rw [hdo,HL.out]
      exact ⟨rfl,rfl⟩
     all_goals simp
end Go.Proofs.YtahefgkdbecemaaGreat
