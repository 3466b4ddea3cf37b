/- A payment let through (impl). -/
import Derived.Test.YtahefgkdbecemaaGreatQ7
import Derived.Test.YtahefgkdbecemaaGreatQ23
import Derived.Test.YtahefgkdbecemaaGreatQ22
import Derived.Test.YtahefgkdbecemaaGreatQ8
import Derived.Test.YtahefgkdbecemaaGreatQ20
import Derived.BigRegion
import Derived.Deep.RegionHeld3
namespace Go.Proofs.YtahefgkdbecemaaGreat
open Go.RowKit
set_option linter.unusedVariables false
set_option linter.unusedSimpArgs false
set_option maxRecDepth 100000
set_option maxHeartbeats 12800000
theorem uB (F:List Nat) (x:Value) (g B:Nat) (b:Bk) (k0 ky ch tt am fe:Int) (ys:Bool) (w:World) (H:Wk F x w g B b [] 0) (hb:Bok b) (ho:Af b ⟨5,ky,ch,tt,am,fe,ys⟩=false) (hk0:k0=5) (hky:1≤ky∧ky≤1000000) (hch:1≤ch∧ch≤99) (htt:1≤tt∧tt≤99) (ha:1≤am∧am≤1125899906842624) (hf:0≤fe∧fe≤1125899906842624) (hct:ch≠tt):Calls Tryz.prog 175 #[.pointer (some ⟨g,0,none⟩), .agg #[k0,ky,ch,tt,am,fe,ys]] w fun e w'=>e = .returned (.tuple #[])∧Dn F g B b ⟨5,ky,ch,tt,am,fe,ys⟩ w w':=by
 subst hk0
 have hcode:=WH (b:=b) (e:=⟨5,ky,ch,tt,am,fe,ys⟩) ho rfl
 unfold Dn
 generalize AQ b ⟨5,ky,ch,tt,am,fe,ys⟩=cd at hcode ⊢
 dsimp only at hcode
 obtain ⟨A,hA⟩:∃ A,A=AM b.chans ch:=⟨_,rfl⟩
 obtain ⟨D,hD⟩:∃ D,D=AM b.chans tt:=⟨_,rfl⟩
 obtain ⟨q9,hq9⟩:∃ q,q=(Aw b ky || Ay b ky):=⟨_,rfl⟩
 rw [← hA,← hD,← hq9] at hcode
 have HCODE:=lH hcode
 have HA:=lH hA
 have HD:=lH hD
 clear hcode ho hA hD
 obtain ⟨y,z,l,P,V,-⟩:=H.cells
 obtain ⟨ax,n,cx,rfl,-,-⟩:=VS.form V.chans
 obtain ⟨ay,m,cy,rfl,-,-⟩:=VS.form V.htlcs
 obtain ⟨az,q,cz,rfl,-,-⟩:=VS.form V.circles
 have PE:=bN w [.int .i64 5,ky,ch,tt,am,fe,ys] 73
 have b0:=bA w [.int .i64 5,ky,ch,tt,am,fe,ys] 73
 obtain ⟨ue,hue⟩:∃ u,u=w.heap.size:=⟨_,rfl⟩
 rw [← hue] at PE
 have nE:=H.fresh
 rw [← hue] at nE
 go_enter Tryz.func175,Tryz.ntmps175
 go_upto_region 1 with fail
 rw [← hue]
 generalize w.alloc (.cells #[.int .i64 5,ky,ch,tt,am,fe,ys] 73)=w0 at PE b0 ⊢
 have H0:=H.keep b0
 have P0:=P.keep b0
 have V0:=V.keep b0
 have W0:Wf g F F w w0:=Wf.of_below b0
 clear b0 P V H hue
 have CK:=vY (.slice ax n cx) (.slice ay m cy) (.slice az q cz) b ky
 simp only [← hq9] at CK
 have HQ9:=lH hq9
 clear hq9
 obtain ⟨p0,p1,p2,p3,p4,p5⟩:=P0.c6
 have c1:=PE.cell 1 _ rfl
 go_cut [] (fun wq=>Wk F (.slice ax n cx) wq g B b [] (AG q9 9 0)∧Wf g F F w0 wq)
 case first =>
  go_region_with (first
   | (go_at_call 262;refine (CK _ (V0.keep (bW))).mono ?_;rintro e w1 ⟨rfl,b1⟩;have b01:Below w0 w0 w1:=(bW);have H1:=H0.keep b01)
   | (go_at_call 260;refine (D5 F _ g B b [] 0 9 q9 w1 H1).mono ?_;rintro e w2 ⟨rfl,H2,W2⟩))
  all_goals
   go_wp2_with fail
   go_meet
   case rel=>exact ⟨H2,(Wf.of_below b01).trans W2⟩
 case rest =>
  obtain ⟨H5,W2⟩:=hcut
  obtain ⟨w2,hw2⟩:∃ x,x=wc:=⟨_,rfl⟩
  subst hw2
  have WX:=W0.trans W2
  obtain ⟨PE,nE⟩:=W2.box PE nE
  clear p0 p1 p2 p3 p4 p5 c1 P0 CK H0 V0 W0 W2
  obtain ⟨k1,hk1⟩:∃ k:Int,k=AG q9 9 0:=⟨_,rfl⟩
  rw [← hk1] at H5
  have HK1:=lH hk1
  clear hk1
  have c2:=PE.cell 2 _ rfl
  go_wp2_with fail
  refine (QC F _ g B b [] _ ch _ H5).mono ?_
  rintro e w3 ⟨p1,o1,rfl,T1,H3,W3,Y1⟩
  rw [← HA.out] at T1 Y1
  obtain ⟨PE,nE⟩:=W3.box PE nE
  have WX:=WX.trans W3
  clear c2 W3 H5
  obtain ⟨k2,hk2⟩:∃ k:Int,k=AG (!AI b.chans ch) 6 k1:=⟨_,rfl⟩
  rw [← hk2] at H3
  have HK2:=lH hk2
  clear hk2
  have c3:=PE.cell 3 _ rfl
  go_wp2_with fail
  refine (QC F _ g B b [] _ tt _ H3).mono ?_
  rintro e w4 ⟨p2,o2,rfl,T2,H4,W4,Y2⟩
  rw [← HD.out] at T2 Y2
  have T1:=T1.keep W4
  obtain ⟨PE,nE⟩:=W4.box PE nE
  have WX:=WX.trans W4
  clear c3 W4 H3
  obtain ⟨k3,hk3⟩:∃ k:Int,k=AG (!AI b.chans tt) 6 k2:=⟨_,rfl⟩
  rw [← hk3] at H4
  have HK3:=lH hk3
  clear hk3
  have bA:=MO hb ch
  have bD:=MO hb tt
  rw [← HA.out] at bA
  rw [← HD.out] at bD
  obtain ⟨bA1,bA2,bA3,bA4⟩:=bA
  obtain ⟨bD1,bD2,bD3,bD4⟩:=bD
  unfold Am at bA1 bA2 bA3 bD1 bD2 bD3
  obtain ⟨fv,hfv⟩:∃ v,v=EC D.base D.ppm am true:=⟨_,rfl⟩
  obtain ⟨fb,hfb⟩:∃ v,v=Be D.base D.ppm am true:=⟨_,rfl⟩
  have hfvb:=uP D.base D.ppm am true
  have CF:=vO D.base D.ppm am
  simp only [← hfv,← hfb] at CF hfvb
  have HFV:=lH hfv
  have HFB:=lH hfb
  clear hfv hfb
  obtain ⟨y4,z4,l4,P4,V4,-⟩:=H4.cells
  obtain ⟨af,nf,cf,rfl,hnf,-⟩:=VS.form V4.htlcs
  have pf:=P4.cell 4 _ rfl
  have HNF:=lH hnf
  clear hnf V4
  go_wp2_with fail
  refine (D5 F _ g B b [] _ 14 _ _ H4).mono ?_
  rintro e w6 ⟨rfl,H5,W6⟩
  have h14:decide ((60:Int)≤(nf:Int))=decide (60≤b.htlcs.length):=dd (by rw [HNF.out];omega)
  rw [h14] at H5
  have T1:=T1.keep W6
  have T2:=T2.keep W6
  obtain ⟨PE,nE⟩:=W6.box PE nE
  have WX:=WX.trans W6
  clear pf P4 H4 W6 h14 HNF
  obtain ⟨k4,hk4⟩:∃ k:Int,k=AG (decide (60≤b.htlcs.length)) 14 k3:=⟨_,rfl⟩
  rw [← hk4] at H5
  have HK4:=lH hk4
  clear hk4
  have c4:=PE.cell 4 _ rfl
  have t4:=T2.cell H5 4 _ rfl
  have t5:=T2.cell H5 5 _ rfl
  go_upto_region 5 with fail
  obtain ⟨wf,hwf⟩:∃ x,x=w6:=⟨_,rfl⟩
  rw [← hwf] at H5 WX T1 T2 PE c4 t4 t5 ⊢
  clear hwf
  go_cut [6,7] (fun u v wq=>u=fv∧v=fb∧Below wf wf wq)
  case first =>
   go_region_held3 (fun w'=>w'.cell? ⟨p2,o2+4,none⟩=.some D.base∧w'.cell? ⟨p2,o2+5,none⟩=.some D.ppm∧w'.cell? ⟨ue,4,none⟩=.some am) (go_keep) (first
    | (go_at_call 263;refine (CF _).mono ?_;rintro e w6 ⟨rfl,b6⟩;have b06:Below wf wf w6:=(bW);have d4:=BN b06 c4;have d5:=BN b06 t4;have d6:=BN b06 t5))
   all_goals
    go_wp2_with fail
    go_meet
    case rel=>exact ⟨rfl,rfl,bW⟩
  case rest =>
   obtain ⟨rfl,rfl,b6⟩:=hcut
   obtain ⟨w7,hw7⟩:∃ x,x=wc:=⟨_,rfl⟩
   subst hw7
   have H5:=H5.keep b6
   have W6:Wf g F F wf w7:=Wf.of_below b6
   have T1:=T1.keep W6
   have T2:=T2.keep W6
   obtain ⟨PE,nE⟩:=W6.box PE nE
   have WX:=WX.trans W6
   clear c4 t4 t5 W6 b6 CF
   have c4:=PE.cell 4 _ rfl
   go_wp2_with fail
   refine (ML am fv _).mono ?_
   rintro e wA ⟨he,rfl⟩
   obtain ⟨sv,okv,rfl,hsv⟩:∃ sv okv,e = .returned (.tuple #[.int .i64 sv, .bool okv])∧((okv=true∧sv=am+fv∧CE am fv=true)∨(okv=false∧sv=0∧CE am fv=false)):=by
    cases hs:CE am fv with
    | true =>
     rw [if_pos hs] at he
     exact ⟨_,_,he,Or.inl ⟨rfl,rfl,rfl⟩⟩
    | false =>
     rw [if_neg (by simp [hs])] at he
     exact ⟨_,_,he,Or.inr ⟨rfl,rfl,rfl⟩⟩
   have HSV:=lH hsv
   clear he c4 hsv
   go_upto_region 7 with fail
   go_cut [] (fun wq=>Wk F (.slice ax n cx) wq g B b [] (AG (!(fb && okv)) 10 k4)∧Wf g F F w7 wq)
   case first =>
    cases fb with
    | false =>
     go_wp2_with fail
     refine (D5 F _ g B b [] _ 10 _ _ H5).mono ?_
     rintro e w8 ⟨rfl,H6,W6⟩
     go_wp2
     go_meet
     case rel=>exact ⟨H6,W6⟩
    | true =>
     go_wp2_with fail
     refine (D5 F _ g B b [] _ 10 _ _ H5).mono ?_
     rintro e w8 ⟨rfl,H6,W6⟩
     go_wp2
     go_meet
     case rel=>exact ⟨H6,W6⟩
   case rest =>
    clear H5
    obtain ⟨H5,W6⟩:=hcut
    obtain ⟨w6,hw6⟩:∃ x,x=wc:=⟨_,rfl⟩
    subst hw6
    have T1:=T1.keep W6
    have T2:=T2.keep W6
    obtain ⟨PE,nE⟩:=W6.box PE nE
    have WX:=WX.trans W6
    clear W6
    obtain ⟨k5,hk5⟩:∃ k:Int,k=AG (!(fb && okv)) 10 k4:=⟨_,rfl⟩
    rw [← hk5] at H5
    have HK5:=lH hk5
    clear hk5
    have tf:=T1.cell H5 3 _ rfl
    go_wp2_with fail
    refine (D5 F _ g B b [] _ 11 _ _ H5).mono ?_
    rintro e w6 ⟨rfl,H6,W6⟩
    have T1:=T1.keep W6
    have T2:=T2.keep W6
    obtain ⟨PE,nE⟩:=W6.box PE nE
    have WX:=WX.trans W6
    clear tf H5 W6
    have H5:=H6
    clear H6
    obtain ⟨k6,hk6⟩:∃ k:Int,k=AG (decide (A.rem<sv)) 11 k5:=⟨_,rfl⟩
    rw [← hk6] at H5
    have HK6:=lH hk6
    clear hk6
    have c4:=PE.cell 4 _ rfl
    have tf:=T2.cell H5 2 _ rfl
    go_upto_region 9 with fail
    obtain ⟨wf,hwf⟩:∃ x,x=w6:=⟨_,rfl⟩
    rw [← hwf] at H5 WX T1 T2 PE c4 tf ⊢
    clear hwf
    go_cut [] (fun wq=>Wk F (.slice ax n cx) wq g B b [] (AG (decide (D.loc<am)) 12 k6)∧Wf g F F wf wq)
    case first =>
     go_region_with (go_at_call 260;refine (D5 F _ g B b [] _ 12 _ _ (H5.keep (bW))).mono ?_;rintro e w6 ⟨rfl,H6,W6⟩)
     all_goals
      go_wp2_with fail
      go_meet
      case rel=>exact ⟨H6,(Wf.of_below (bW)).trans W6⟩
    case rest =>
     clear H5
     obtain ⟨H5,W6⟩:=hcut
     obtain ⟨w7,hw7⟩:∃ x,x=wc:=⟨_,rfl⟩
     subst hw7
     have T1:=T1.keep W6
     have T2:=T2.keep W6
     obtain ⟨PE,nE⟩:=W6.box PE nE
     have WX:=WX.trans W6
     clear c4 tf W6
     obtain ⟨k7,hk7⟩:∃ k:Int,k=AG (decide (D.loc<am)) 12 k6:=⟨_,rfl⟩
     rw [← hk7] at H5
     have HK7:=lH hk7
     clear hk7
     obtain ⟨rv,hrv⟩:∃ r,r=ED b A D tt am ys:=⟨_,rfl⟩
     have hcd:cd=AG (decide (rv=0)) 13 k7:=by
      rw [HCODE.out,HK7.out,HK6.out,HK5.out,HK4.out,HK3.out,HK2.out,HK1.out,Px _ _ _ _ dC,← hrv]
      rw [← HFV.out,← HFB.out]
      rcases HSV.out with ⟨rfl,rfl,hs⟩ | ⟨rfl,rfl,hs⟩
      ·rw [hs]
      rw [hs,Bool.and_false]
      have hz:=Yh (c:=10) dC (AG (decide (60≤b.htlcs.length)) 14 (AG (!(AI b.chans ch && AI b.chans tt)) 6 (AG q9 9 0)))
      show AG _ 13 (AG _ 12 (AG _ 11 (AG true 10 _)))=AG _ 13 (AG _ 12 (AG _ 11 (AG true 10 _)))
      generalize AG true 10 _=z at hz ⊢
      have hz':∀ q c,AG q c z=z:=fun q c=>Jm q c z hz
      simp only [hz']
     have HCD:=lH hcd
     have HRV:=lH hrv
     clear hcd hrv
     have c0:=PE.cell 0 _ rfl
     by_cases h0:k7=0;rotate_left
     ·have hcd:k7=cd:=by rw [HCD.out,Jm _ _ _ h0]
      have e6:(k7 == 0)=false:=by rw [beq_eq_false_iff_ne];exact h0
      have e7:(k7 != 0)=true:=by simp [h0]
      obtain ⟨yq,zq,lq,PQ,-,-⟩:=H5.cells
      have pq:=PQ.cell 7 _ rfl
      have HCX:=lH hcd
      clear hcd
      go_wp2
      (try simp only [Exit.inBlock,Exit.then])
      refine bodyPost_ret (results_none rfl _ _ _) rfl ?_
      rw [HCX.out] at H5
      exact ⟨rfl,F,_,b,[],H5,WX,fun e=>absurd (HCX.out.trans e) h0⟩
     have hcA:=HK7.out.symm
     rw [h0] at hcA
     obtain ⟨r12,hcB⟩:=Bg hcA dC
     rw [HK6.out] at hcB
     obtain ⟨r11,hcC⟩:=Bg hcB dC
     rw [HK5.out] at hcC
     obtain ⟨r10,hcD⟩:=Bg hcC dC
     rw [HK4.out] at hcD
     obtain ⟨r14,hcE⟩:=Bg hcD dC
     rw [HK3.out,HK2.out,Px _ _ _ _ dC] at hcE
     obtain ⟨r6,hcF⟩:=Bg hcE dC
     clear hcA hcB hcC hcD hcE hcF
     have r12:=of_decide_eq_false r12
     have r11:=of_decide_eq_false r11
     have r10':okv=true:=by cases okv with | true=>rfl | false=>(simp at r10)
     obtain ⟨rfl,rfl,hadd⟩:okv=true∧sv=am+fv∧CE am fv=true:=by
      rcases HSV.out with h | ⟨h3,-,-⟩
      ·exact h
      rw [h3] at r10';cases r10'
     have haddb:=NO hadd
     clear r14 r10 r10' hadd HK1 HK2 HK3 HK4 HK5 HK6 HK7 HCODE HSV
     have hc1:AI b.chans ch=true:=by simp at r6;exact r6.1
     have hc2:AI b.chans tt=true:=by simp at r6;exact r6.2
     obtain ⟨n1,cc1,ia,hxe,rfl,ai⟩:=Y1 hc1
     obtain ⟨n2,cc2,jd,hxe2,rfl,di⟩:=Y2 hc2
     simp only [Value.slice.injEq] at hxe
     obtain ⟨rfl,rfl,rfl⟩:=hxe
     have e1:p1=p2:=by (simp at hxe2;omega)
     subst e1
     have aid:A.id=ch:=by rw [HA.out];exact (Ei hc1).2
     have did:D.id=tt:=by rw [HD.out];exact (Ei hc2).2
     have hso:=hb.so
     have aok:=H5.oks A (List.mem_of_getElem? ai)
     have dok:=H5.oks D (List.mem_of_getElem? di)
     have u:=T1.cell H5
     have v:=T2.cell H5
     have u0:=u 0 _ rfl
     have v0:=v 0 _ rfl
     have u1:=u 1 _ rfl
     have v1:=v 1 _ rfl
     have u2:=u 2 _ rfl
     have v2:=v 2 _ rfl
     have u3:=u 3 _ rfl
     have v3:=v 3 _ rfl
     have u4:=u 4 _ rfl
     have v4:=v 4 _ rfl
     have u5:=u 5 _ rfl
     have v5:=v 5 _ rfl
     have u6:=u 6 _ rfl
     have v6:=v 6 _ rfl
     simp only [Nat.add_zero] at u0 v0
     clear hxe2 Y1 Y2 T1 T2 u v
     have e6:(k7 == 0)=true:=by rw [h0];rfl
     rw [h0] at H5
     have HCD0:Hid (cd=AG (decide (rv=0)) 13 0):=by have:=HCD.out;rw [h0] at this;exact this
     obtain ⟨yq,zq,lq,PQ,-,-⟩:=H5.cells
     have pq:w7.cell? ⟨g,7,none⟩=.some I0:=PQ.cell 7 _ rfl
     have c1:=PE.cell 1 _ rfl
     have c2:=PE.cell 2 _ rfl
     have c3:=PE.cell 3 _ rfl
     have c4:=PE.cell 4 _ rfl
     have c5:=PE.cell 5 _ rfl
     have c6:=PE.cell 6 _ rfl
     have hHB:∀ h∈b.htlcs,0≤h.aout∧h.aout≤1125899906842624:=fun h hm=>by
      have K:=hb.pk.hs h hm
      have k1:=K.ain
      have k2:=K.o1
      have k3:=K.o2
      unfold Am at k1
      omega
     have CAL:=fun w (H:Wk F (.slice (some ⟨p1,0,none⟩) n cx) w g B b [] 0)=>ui F _ g B b [] 0 A.id A.size A.loc A.rem A.base A.ppm A.score D.id D.size D.loc D.rem D.base D.ppm D.score 5 ky ch tt am fe ys w H hHB hb.pk.h60 ⟨dok.2.1,by unfold AE;omega⟩
     rw [show ED b ⟨A.id,A.size,A.loc,A.rem,A.base,A.ppm,A.score⟩ ⟨D.id,D.size,D.loc,D.rem,D.base,D.ppm,D.score⟩ tt am ys=rv from HRV.out.symm] at CAL
     simp only [aid,did] at CAL
     go_upto_region 12 with fail
     have gu0:=fun gr:Grew w7=>gr.cell u0
     have gu1:=fun gr:Grew w7=>gr.cell u1
     have gu2:=fun gr:Grew w7=>gr.cell u2
     have gu3:=fun gr:Grew w7=>gr.cell u3
     have gu4:=fun gr:Grew w7=>gr.cell u4
     have gu5:=fun gr:Grew w7=>gr.cell u5
     have gu6:=fun gr:Grew w7=>gr.cell u6
     have gv0:=fun gr:Grew w7=>gr.cell v0
     have gv1:=fun gr:Grew w7=>gr.cell v1
     have gv2:=fun gr:Grew w7=>gr.cell v2
     have gv3:=fun gr:Grew w7=>gr.cell v3
     have gv4:=fun gr:Grew w7=>gr.cell v4
     have gv5:=fun gr:Grew w7=>gr.cell v5
     have gv6:=fun gr:Grew w7=>gr.cell v6
     have gc0:=fun gr:Grew w7=>gr.cell c0
     have gc1:=fun gr:Grew w7=>gr.cell c1
     have gc2:=fun gr:Grew w7=>gr.cell c2
     have gc3:=fun gr:Grew w7=>gr.cell c3
     have gc4:=fun gr:Grew w7=>gr.cell c4
     have gc5:=fun gr:Grew w7=>gr.cell c5
     have gc6:=fun gr:Grew w7=>gr.cell c6
     refine ET kR kR ?_
     repeat (go_big_quiet_step ((go_at_call 265;with_reducible exact Calls.grew_of (CAL _ (H5.keep (Grew.below _))))))
     refine wpQuiet_nil ?_
     rintro _ ⟨gw,rfl⟩
     obtain ⟨w8,b78⟩:=gw
     dsimp only
     clear gu0 gu1 gu2 gu3 gu4 gu5 gu6 gv0 gv1 gv2 gv3 gv4 gv5 gv6 gc0 gc1 gc2 gc3 gc4 gc5 gc6
     have W6:Wf g F F w7 w8:=Wf.of_below b78
     have H6:=H5.keep b78
     obtain ⟨PE,nE⟩:=W6.box PE nE
     have WX:=WX.trans W6
     clear H5 W6 b78 CAL pq PQ u0 u1 u2 u3 u4 u5 u6 v0 v1 v2 v3 v4 v5 v6 c0 c1 c2 c3 c4 c5 c6 hHB
     go_wp2_with fail
     refine (D5 F _ g B b [] 0 13 _ _ H6).mono ?_
     rintro e w9 ⟨rfl,H5,W6⟩
     obtain ⟨PE,nE⟩:=W6.box PE nE
     have WX:=WX.trans W6
     clear H6 W6
     rw [show (rv == 0)=decide (rv=0) from rfl,← HCD0.out] at H5
     obtain ⟨w7,hw7⟩:∃ x,x=w9:=⟨_,rfl⟩
     rw [← hw7] at H5 WX PE ⊢
     clear hw7
     obtain ⟨yq,zq,lq,PQ,-,-⟩:=H5.cells
     have pq:=PQ.cell 7 _ rfl
     by_cases hr0:rv=0
     ·have hcd13:Hid (cd=13):=by unfold Hid;rw [HCD0.out,decide_eq_true hr0];rfl
      have e9:(cd != 0)=true:=by rw [hcd13.out];rfl
      clear hr0
      go_wp2
      (try simp only [Exit.inBlock,Exit.then])
      refine bodyPost_ret (results_none rfl _ _ _) rfl ?_
      exact ⟨rfl,F,_,b,[],H5,WX,fun e=>by rw [hcd13.out] at e;cases e⟩
     have hcd0:cd=0:=by rw [HCD0.out,decide_eq_false hr0];rfl
     clear HCD0 HCD
     subst hcd0
     have e9:((0:Int) != 0)=false:=rfl
     have c1:=PE.cell 1 _ rfl
     have c2:=PE.cell 2 _ rfl
     have c3:=PE.cell 3 _ rfl
     have c4:=PE.cell 4 _ rfl
     obtain ⟨ar,nr,cr,pr,hnr,hncr,OR,VR,HR⟩:=H5.ht
     obtain ⟨yp,zp,lp,PP,-,-⟩:=H5.cells
     have zr:=PP.fz 4 AF
     have hgr:=PP.lt
     have hBw:=H5.lt.2.1
     have hgB:=H5.lt.1
     have OKS:=VR.oks
     have hsm:b.htlcs.length≤60:=hb.pk.h60
     obtain ⟨L,hL⟩:∃ l,l=b.htlcs ++ [(⟨ky,ch,tt,am+fv,am,rv == 2,0⟩:Ht)]:=⟨_,rfl⟩
     have hoks:∀ y∈L,y.ok:=fun y hy=>by
      rw [hL] at hy
      rcases List.mem_append.1 hy with hy | hy
      ·exact OKS y hy
      rw [List.mem_singleton.1 hy];exact ⟨by unfold AE;dsimp only;omega,by unfold AE;dsimp only;omega,by unfold AE;dsimp only;omega,by unfold AE;dsimp only;omega,by unfold AE;dsimp only;omega,trivial,by unfold AE;dsimp only;omega⟩
     have hown:=Cj OR
     have HOWN:=lH hown
     have HOKS:=lH hoks
     have HL:=lH hL
     have HNR:=lH hnr
     have hnrS:nr≤60:=by omega
     have pw:w7.cell? ⟨g,4,none⟩=some (.slice ar nr cr):=pr
     have hin:=H5.htIn pw
     have HIN:=lH hin
     have hneq:¬ ue=g:=fun e=>nE (by simp [e])
     have hneq':¬ g=ue:=fun e=>nE (by simp [e])
     have hul:=PE.lt
     clear hL hoks OKS hnr hown pr hin
     go_upto_region 15 with fail
     go_cut [] (fun wq=>∃ F',Wk F' (.slice (some ⟨p1,0,none⟩) n cx) wq g B {b with htlcs:=L} [] 0∧Wf g F F' w7 wq)
     case first =>
      refine wp_region_noPanic ?_
      refine wp_region_held_drew (S:=fun w'=>w'.cell? ⟨ue,1,none⟩=.some ky∧w'.cell? ⟨ue,2,none⟩=.some ch∧w'.cell? ⟨ue,3,none⟩=.some tt∧w'.cell? ⟨ue,4,none⟩=.some am) kR ?_ (fun hHeld => ?_)
      ·(try dsimp only)
       go_keep
      refine wpAnyH_take (i:=0) (v := .pointer (some ⟨g,0,none⟩)) rfl kR kR kR (fun _ _ _ h=>h) (Or.inl ⟨by rfl,?_⟩) aS ?_
      ·intro w hSw
       (try dsimp only at hSw)
       go_simp
      try simp only [Act.put,List.setIfInBounds_toArray,List.set_cons_zero,List.set_cons_succ]
      refine wpAnyH_take (i:=1) (v := .pointer (some ⟨g,0,none⟩)) rfl kR kR kR (fun _ _ _ h=>h) (Or.inl ⟨by rfl,?_⟩) aS ?_
      ·intro w hSw
       (try dsimp only at hSw)
       go_simp
      try simp only [Act.put,List.setIfInBounds_toArray,List.set_cons_zero,List.set_cons_succ]
      refine wpAnyH_take (i:=2) (v := .pointer (some ⟨g,0,none⟩)) rfl kR kR kR (fun _ _ _ h=>h) (Or.inl ⟨by rfl,?_⟩) aS ?_
      ·intro w hSw
       (try dsimp only at hSw)
       go_simp
      try simp only [Act.put,List.setIfInBounds_toArray,List.set_cons_zero,List.set_cons_succ]
      refine wpAnyH_take (i:=3) (v := .pointer (some ⟨g,0,none⟩)) rfl kR kR kR (fun _ _ _ h=>h) (Or.inl ⟨by rfl,?_⟩) aS ?_
      ·intro w hSw
       (try dsimp only at hSw)
       go_simp
      try simp only [Act.put,List.setIfInBounds_toArray,List.set_cons_zero,List.set_cons_succ]
      refine wpAnyH_take (i:=4) (v := .pointer (some ⟨g,4,none⟩)) rfl kR kR kR (fun _ _ _ h=>h) (Or.inl ⟨by rfl,?_⟩) aS ?_
      ·intro w hSw
       (try dsimp only at hSw)
       go_simp
      try simp only [Act.put,List.setIfInBounds_toArray,List.set_cons_zero,List.set_cons_succ]
      refine wpAnyH_take (i:=6) (v := .pointer (some ⟨ue,1,none⟩)) rfl kR kR kR (fun _ _ _ h=>h) (Or.inl ⟨by rfl,?_⟩) aS ?_
      ·intro w hSw
       (try dsimp only at hSw)
       go_simp
      try simp only [Act.put,List.setIfInBounds_toArray,List.set_cons_zero,List.set_cons_succ]
      refine wpAnyH_take (i:=7) (v := .int .i64 ky) rfl kR kR kR (fun _ _ _ h=>h) (Or.inl ⟨by rfl,?_⟩) aS ?_
      ·intro w hSw
       (try dsimp only at hSw)
       go_simp
      try simp only [Act.put,List.setIfInBounds_toArray,List.set_cons_zero,List.set_cons_succ]
      refine wpAnyH_take (i:=8) (v := .pointer (some ⟨ue,2,none⟩)) rfl kR kR kR (fun _ _ _ h=>h) (Or.inl ⟨by rfl,?_⟩) aS ?_
      ·intro w hSw
       (try dsimp only at hSw)
       go_simp
      try simp only [Act.put,List.setIfInBounds_toArray,List.set_cons_zero,List.set_cons_succ]
      refine wpAnyH_take (i:=9) (v := .int .i64 ch) rfl kR kR kR (fun _ _ _ h=>h) (Or.inl ⟨by rfl,?_⟩) aS ?_
      ·intro w hSw
       (try dsimp only at hSw)
       go_simp
      try simp only [Act.put,List.setIfInBounds_toArray,List.set_cons_zero,List.set_cons_succ]
      refine wpAnyH_take (i:=10) (v := .pointer (some ⟨ue,3,none⟩)) rfl kR kR kR (fun _ _ _ h=>h) (Or.inl ⟨by rfl,?_⟩) aS ?_
      ·intro w hSw
       (try dsimp only at hSw)
       go_simp
      try simp only [Act.put,List.setIfInBounds_toArray,List.set_cons_zero,List.set_cons_succ]
      refine wpAnyH_take (i:=11) (v := .int .i64 tt) rfl kR kR kR (fun _ _ _ h=>h) (Or.inl ⟨by rfl,?_⟩) aS ?_
      ·intro w hSw
       (try dsimp only at hSw)
       go_simp
      try simp only [Act.put,List.setIfInBounds_toArray,List.set_cons_zero,List.set_cons_succ]
      refine wpAnyH_take (i:=12) (v := .int .i64 (am+fv)) rfl kR kR kR (fun _ _ _ h=>h) (Or.inl ⟨by rfl,?_⟩) aS ?_
      ·intro w hSw
       (try dsimp only at hSw)
       go_simp
      try simp only [Act.put,List.setIfInBounds_toArray,List.set_cons_zero,List.set_cons_succ]
      refine wpAnyH_take (i:=13) (v := .pointer (some ⟨ue,4,none⟩)) rfl kR kR kR (fun _ _ _ h=>h) (Or.inl ⟨by rfl,?_⟩) aS ?_
      ·intro w hSw
       (try dsimp only at hSw)
       go_simp
      try simp only [Act.put,List.setIfInBounds_toArray,List.set_cons_zero,List.set_cons_succ]
      refine wpAnyH_take (i:=14) (v := .int .i64 am) rfl kR kR kR (fun _ _ _ h=>h) (Or.inl ⟨by rfl,?_⟩) aS ?_
      ·intro w hSw
       (try dsimp only at hSw)
       go_simp
      try simp only [Act.put,List.setIfInBounds_toArray,List.set_cons_zero,List.set_cons_succ]
      refine wpAnyH_take (i:=15) (v := .int .i64 rv) rfl kR kR kR (fun _ _ _ h=>h) (Or.inl ⟨by rfl,?_⟩) aS ?_
      ·intro w hSw
       (try dsimp only at hSw)
       go_simp
      try simp only [Act.put,List.setIfInBounds_toArray,List.set_cons_zero,List.set_cons_succ]
      refine wpAnyH_take (i:=16) (v := .bool (rv == 2)) rfl kR kR kR (fun _ _ _ h=>h) (Or.inl ⟨by rfl,?_⟩) aS ?_
      ·intro w hSw
       (try dsimp only at hSw)
       go_simp
      try simp only [Act.put,List.setIfInBounds_toArray,List.set_cons_zero,List.set_cons_succ]
      refine wpAnyH_take (i:=17) (v := .agg #[ky,ch,tt, .int .i64 (am+fv),am, .bool (rv == 2),I0]) rfl kR kR kR (fun _ _ _ h=>h) (Or.inl ⟨by rfl,?_⟩) aS ?_
      ·intro w hSw
       (try dsimp only at hSw)
       go_simp
      try simp only [Act.put,List.setIfInBounds_toArray,List.set_cons_zero,List.set_cons_succ]
      refine wpAnyH_ready (rs := [5,18]) kR sM ?_
      refine AllReadyH.cons rfl (fun K hK => ?_) ?_
      ·go_simp
       refine sO hK fun hHeld => ?_
       clear hK K
       refine wpAnyH_ready (rs := [18]) kR sM ?_
       refine AllReadyH.cons rfl (fun K hK => ?_) AllReadyH.nil
       go_simp
       refine sO hK fun hHeld => ?_
       clear hK K
       refine wpAnyH_ready (rs := [19]) kR sM ?_
       refine AllReadyH.cons rfl (fun K hK => ?_) AllReadyH.nil
       refine Jx Hz Tryz.underlying51 rfl dC dC (fun _=>rfl) JI rfl _ _ rfl B (.slice ar nr cr) b.htlcs rfl (by first | exact AC.alloc (w:=w7.drew) (AC.drew OR) _ | exact AC.alloc (AC.drewN OR _) _ | exact AC.alloc OR _) _ (⟨ky,ch,tt,am+fv,am,rv == 2,0⟩:Ht) rfl (BC _ _ _ rfl) (by have:=HNR.out;omega) (by first | exact Nat.le_trans hBw (Aj _ _) | (simp;omega)) ?_
       intro v8 w8 o8 g8 f8
       rw [← HL.out] at o8
       obtain ⟨a8,c8,rfl,-⟩:=AC.of (ok:=fun _=>True) o8 (fun _ _=>trivial)
       have E8:Ex (Value.slice ar nr cr).ownBlock.toList w7 w8:=(Ex.of_below (Ae (Below.drew (Below.refl _ _)) _) _).trans (Ex.of_grown g8)
       have P8:=PP.ex E8 (fun hm=>H5.gF (HIN.out g hm))
       have p8:=P8.cell 4 _ rfl
       have z8:=P8.fz 4 AF
       have FR:∀ k∈(Value.slice a8 L.length c8).ownBlock.toList,k∈(Value.slice ar nr cr).ownBlock.toList∨w7.heap.size≤k:=(fun k hk=>by (rcases f8 k (by simpa using hk) with h | h);exact Or.inl (by simpa using h);exact Or.inr (by first | omega | (simp at h;omega)))
       have HFR:=lH FR
       have PE8:=PE.ex E8 (fun hm=>nE (List.mem_cons_of_mem _ (HIN.out ue hm)))
       have d1:=PE8.cell 1 _ rfl
       have d2:=PE8.cell 2 _ rfl
       have d3:=PE8.cell 3 _ rfl
       have d4:=PE8.cell 4 _ rfl
       clear FR f8 g8
       refine sO hK fun hHeld => ?_
       clear hK K
       refine wpAnyH_take (i:=20) (v := .pointer (some ⟨g,0,none⟩)) rfl kR kR kR (fun _ _ _ h=>h) (Or.inl ⟨by rfl,?_⟩) aS ?_
       ·intro w hSw
        (try dsimp only at hSw)
        go_simp
       try simp only [Act.put,List.setIfInBounds_toArray,List.set_cons_zero,List.set_cons_succ]
       refine wpAnyH_take (i:=21) (v := .pointer (some ⟨g,0,none⟩)) rfl kR kR kR (fun _ _ _ h=>h) (Or.inl ⟨by rfl,?_⟩) aS ?_
       ·intro w hSw
        (try dsimp only at hSw)
        go_simp
       try simp only [Act.put,List.setIfInBounds_toArray,List.set_cons_zero,List.set_cons_succ]
       refine wpAnyH_take (i:=22) (v := .pointer (some ⟨g,4,none⟩)) rfl kR kR kR (fun _ _ _ h=>h) (Or.inl ⟨by rfl,?_⟩) aS ?_
       ·intro w hSw
        (try dsimp only at hSw)
        go_simp
       try simp only [Act.put,List.setIfInBounds_toArray,List.set_cons_zero,List.set_cons_succ]
       refine wpAnyH_ready (rs := [23]) kR sM ?_
       refine AllReadyH.cons rfl (fun K hK => ?_) AllReadyH.nil
       go_simp
       refine sO hK fun hHeld => ?_
       clear hK K
       refine wpAnyH_done kR ?_ _
       refine NoPanic.normal ?_
       obtain ⟨F',FK,FW⟩:=HR w8 _ L E8 o8 HFR.out HOKS.out
       go_wp2_with fail
       all_goals
        go_meet
        case rel=>first | exact ⟨F',FK,FW⟩ | exact ⟨F',FK.keep (Below.drew (Below.refl _ _)),FW.trans (Wf.of_below (Below.drew (Below.refl _ _)))⟩
      refine AllReadyH.cons rfl (fun K hK => ?_) AllReadyH.nil
      go_simp
      refine sO hK fun hHeld => ?_
      clear hK K
      refine wpAnyH_ready (rs := [5]) kR sM ?_
      refine AllReadyH.cons rfl (fun K hK => ?_) AllReadyH.nil
      go_simp
      refine sO hK fun hHeld => ?_
      clear hK K
      refine wpAnyH_ready (rs := [19]) kR sM ?_
      refine AllReadyH.cons rfl (fun K hK => ?_) AllReadyH.nil
      refine Jx Hz Tryz.underlying51 rfl dC dC (fun _=>rfl) JI rfl _ _ rfl B (.slice ar nr cr) b.htlcs rfl (by first | exact AC.alloc (w:=w7.drew) (AC.drew OR) _ | exact AC.alloc (AC.drewN OR _) _ | exact AC.alloc OR _) _ (⟨ky,ch,tt,am+fv,am,rv == 2,0⟩:Ht) rfl (BC _ _ _ rfl) (by have:=HNR.out;omega) (by first | exact Nat.le_trans hBw (Aj _ _) | (simp;omega)) ?_
      intro v8 w8 o8 g8 f8
      rw [← HL.out] at o8
      obtain ⟨a8,c8,rfl,-⟩:=AC.of (ok:=fun _=>True) o8 (fun _ _=>trivial)
      have E8:Ex (Value.slice ar nr cr).ownBlock.toList w7 w8:=(Ex.of_below (Ae (Below.drew (Below.refl _ _)) _) _).trans (Ex.of_grown g8)
      have P8:=PP.ex E8 (fun hm=>H5.gF (HIN.out g hm))
      have p8:=P8.cell 4 _ rfl
      have z8:=P8.fz 4 AF
      have FR:∀ k∈(Value.slice a8 L.length c8).ownBlock.toList,k∈(Value.slice ar nr cr).ownBlock.toList∨w7.heap.size≤k:=(fun k hk=>by (rcases f8 k (by simpa using hk) with h | h);exact Or.inl (by simpa using h);exact Or.inr (by first | omega | (simp at h;omega)))
      have HFR:=lH FR
      have PE8:=PE.ex E8 (fun hm=>nE (List.mem_cons_of_mem _ (HIN.out ue hm)))
      have d1:=PE8.cell 1 _ rfl
      have d2:=PE8.cell 2 _ rfl
      have d3:=PE8.cell 3 _ rfl
      have d4:=PE8.cell 4 _ rfl
      clear FR f8 g8
      refine sO hK fun hHeld => ?_
      clear hK K
      refine wpAnyH_take (i:=20) (v := .pointer (some ⟨g,0,none⟩)) rfl kR kR kR (fun _ _ _ h=>h) (Or.inl ⟨by rfl,?_⟩) aS ?_
      ·intro w hSw
       (try dsimp only at hSw)
       go_simp
      try simp only [Act.put,List.setIfInBounds_toArray,List.set_cons_zero,List.set_cons_succ]
      refine wpAnyH_take (i:=21) (v := .pointer (some ⟨g,0,none⟩)) rfl kR kR kR (fun _ _ _ h=>h) (Or.inl ⟨by rfl,?_⟩) aS ?_
      ·intro w hSw
       (try dsimp only at hSw)
       go_simp
      try simp only [Act.put,List.setIfInBounds_toArray,List.set_cons_zero,List.set_cons_succ]
      refine wpAnyH_take (i:=22) (v := .pointer (some ⟨g,4,none⟩)) rfl kR kR kR (fun _ _ _ h=>h) (Or.inl ⟨by rfl,?_⟩) aS ?_
      ·intro w hSw
       (try dsimp only at hSw)
       go_simp
      try simp only [Act.put,List.setIfInBounds_toArray,List.set_cons_zero,List.set_cons_succ]
      refine wpAnyH_ready (rs := [23]) kR sM ?_
      refine AllReadyH.cons rfl (fun K hK => ?_) AllReadyH.nil
      go_simp
      refine sO hK fun hHeld => ?_
      clear hK K
      refine wpAnyH_done kR ?_ _
      refine NoPanic.normal ?_
      obtain ⟨F',FK,FW⟩:=HR w8 _ L E8 o8 HFR.out HOKS.out
      go_wp2_with fail
      all_goals
       go_meet
       case rel=>first | exact ⟨F',FK,FW⟩ | exact ⟨F',FK.keep (Below.drew (Below.refl _ _)),FW.trans (Wf.of_below (Below.drew (Below.refl _ _)))⟩
     case rest =>
      obtain ⟨F',H6,W6⟩:=hcut
      obtain ⟨w8,hw8⟩:∃ x,x=wc:=⟨_,rfl⟩
      subst hw8
      clear H5 HR OR VR PP zr pw HOWN hBw hgr
      have H5:=H6
      obtain ⟨PE,nE⟩:=W6.box PE nE
      have WX:=WX.trans W6
      clear H6 W6
      clear pq PQ c1 c2 c3 c4
      have AT:=H5.at ai aid hso
      have cA:_=some (Value.int IntKind.i64 (A.rem)):=AT.1 3 _ rfl
      have zA:=AT.2.1 (ia*7+3)
      have hwr4:IntKind.i64.wrap (A.rem - (am+fv))=A.rem - (am+fv):=by rw [IntKind.wrap_i64];omega
      have FIN:=AT.2.2 3 (.int .i64 (A.rem - (am+fv))) (AO 0 (-(am+fv))) dC (by simp [Cn.enc,AO];try omega) (EG aok uI uI)
      have FW:=FIN.2
      have FK:=FIN.1
      obtain ⟨PE',nE'⟩:=FW.box PE nE
      have WX':=WX.trans FW
      clear FIN AT FW H5 PE nE WX
      go_upto_region 17 with fail
      generalize World.setCell w8 ⟨p1,ia*7+3,none⟩ (Value.int IntKind.i64 (A.rem - (am+fv)))=wb1 at FK PE' WX' ⊢
      have H5:=FK
      have PE:=PE'
      have nE:=nE'
      have WX:=WX'
      clear FK PE' nE' WX' cA zA
      have di2:=Fw (ch:=ch) (f:=(AO 0 (-(am+fv)))) di (by rw [did];exact hct.symm)
      have AT:=H5.at di2 did (D6 (fun _=>rfl) hso)
      have cA:_=some (Value.int IntKind.i64 (D.loc)):=AT.1 2 _ rfl
      have zA:=AT.2.1 (jd*7+2)
      have c4:=PE.cell 4 _ rfl
      have hwr5:IntKind.i64.wrap (D.loc - am)=D.loc - am:=by rw [IntKind.wrap_i64];omega
      have FIN:=AT.2.2 2 (.int .i64 (D.loc - am)) (AO (-am) 0) dC (by simp [Cn.enc,AO];try omega) (EG dok uI uI)
      have FW:=FIN.2.trans (Wf.of_below (Below.drew (Below.refl _ _)))
      have FK:=FIN.1.keep (Below.drew (Below.refl _ _))
      obtain ⟨PE',nE'⟩:=FW.box PE nE
      have WX':=WX.trans FW
      clear FIN AT FW H5 PE nE WX
      go_cut [] (fun wq=>wq=World.drew (World.setCell wb1 ⟨p1,jd*7+2,none⟩ (Value.int IntKind.i64 (D.loc - am))))
      case first =>
       go_region_with (fail)
       all_goals
        go_wp2_with fail
        go_meet
        case rel=>rfl
      case' rest =>
       obtain ⟨wb2,hwn⟩:∃ x,x=wc:=⟨_,rfl⟩
       subst hwn
       rw [← hcut] at FK PE' WX'
       clear hcut
      have H5:=FK
      have PE:=PE'
      have nE:=nE'
      have WX:=WX'
      clear FK PE' nE' WX' cA zA c4
      have LI:=LsIn.nil
      have c3:=PE.cell 3 _ rfl
      have c4:=PE.cell 4 _ rfl
      have hwr6:IntKind.i64.wrap (-am) = -am:=by rw [IntKind.wrap_i64];omega
      obtain ⟨hg,LI⟩:=LsIn.add LI (x:=⟨6,tt,-am⟩) sM Cq uL sM
      go_wp2_with fail
      refine (DJ _ _ g B _ _ 0 6 tt (-am) _ H5 hg).mono ?_
      rintro e w9 ⟨rfl,F9,H9,W9⟩
      obtain ⟨PE,nE⟩:=W9.box PE nE
      have H5:=H9
      have WX:=WX.trans W9
      clear H9 W9 hg c3 c4
      have c3:=PE.cell 3 _ rfl
      have c4:=PE.cell 4 _ rfl
      obtain ⟨hg,LI⟩:=LsIn.add LI (x:=⟨8,tt,am⟩) sM Cq uL sM
      go_wp2_with fail
      refine (DJ _ _ g B _ _ 0 8 tt (am) _ H5 hg).mono ?_
      rintro e w9 ⟨rfl,F9,H9,W9⟩
      obtain ⟨PE,nE⟩:=W9.box PE nE
      have H5:=H9
      have WX:=WX.trans W9
      clear H9 W9 hg c3 c4
      go_wp2
      go_end0
      rw [Gb,Gy] at H5
      ·refine ⟨rfl,_,_,_,_,H5,WX,?_⟩
       try intro _
       have hdo:Al b ⟨5,ky,ch,tt,am,fe,ys⟩=({b with htlcs:=b.htlcs ++ [⟨ky,ch,tt,Ea b ⟨5,ky,ch,tt,am,fe,ys⟩,am,decide (ED b (AM b.chans ch) (AM b.chans tt) tt am ys=2),0⟩],chans:=AU (AU b.chans ch (AO 0 (-(Ea b ⟨5,ky,ch,tt,am,fe,ys⟩)))) tt (AO (-am) 0)},BL [⟨6,tt,-am⟩,⟨8,tt,am⟩]):=rfl
       have hsum:Ea b ⟨5,ky,ch,tt,am,fe,ys⟩=am+fv:=by unfold Ea;rw [HFV.out,HD.out]
       rw [hdo,hsum,← HA.out,← HD.out,← HRV.out,HL.out]
       exact ⟨rfl,rfl⟩
      all_goals simp
end Go.Proofs.YtahefgkdbecemaaGreat
