/- A payment sent in a circle (impl). -/
import Derived.Test.YtahefgkdbecemaaGreatQ7
import Derived.Test.YtahefgkdbecemaaGreatQ23
import Derived.Test.YtahefgkdbecemaaGreatQ22
import Derived.Test.YtahefgkdbecemaaGreatQ8
import Derived.BigRegion
import Derived.Deep.RegionHeld3
namespace Go.Proofs.YtahefgkdbecemaaGreat
open Go.RowKit
set_option linter.unusedVariables false
set_option linter.unusedSimpArgs false
set_option maxRecDepth 100000
set_option maxHeartbeats 12800000
theorem wE (F:List Nat) (x:Value) (g B:Nat) (b:Bk) (k0 ky ch tt am fe:Int) (ys:Bool) (w:World) (H:Wk F x w g B b [] 0) (hb:Bok b) (ho:Af b ⟨9,ky,ch,tt,am,fe,ys⟩=false) (hk0:k0=9) (hky:1≤ky∧ky≤1000000) (hch:1≤ch∧ch≤99) (htt:1≤tt∧tt≤99) (ha:1≤am∧am≤1125899906842624) (hf:0≤fe∧fe≤1125899906842624) (hct:ch≠tt):Calls Tryz.prog 178 #[.pointer (some ⟨g,0,none⟩), .agg #[k0,ky,ch,tt,am,fe,ys]] w fun e w'=>e = .returned (.tuple #[])∧Dn F g B b ⟨9,ky,ch,tt,am,fe,ys⟩ w w':=by
 subst hk0
 have hcode:=A17 (b:=b) (e:=⟨9,ky,ch,tt,am,fe,ys⟩) ho rfl
 unfold Dn
 generalize AQ b ⟨9,ky,ch,tt,am,fe,ys⟩=cd at hcode ⊢
 dsimp only at hcode
 obtain ⟨A,hA⟩:∃ A,A=AM b.chans ch:=⟨_,rfl⟩
 obtain ⟨D,hD⟩:∃ D,D=AM b.chans tt:=⟨_,rfl⟩
 obtain ⟨q9,hq9⟩:∃ q,q=(Aw b ky || Ay b ky):=⟨_,rfl⟩
 rw [← hA,← hD,← hq9] at hcode
 have HCODE:=lH hcode
 have HA:=lH hA
 have HD:=lH hD
 clear hcode ho hA hD
 obtain ⟨y,z,l,P,V,-⟩:=H.cells
 obtain ⟨ax,n,cx,rfl,-,-⟩:=VS.form V.chans
 obtain ⟨ay,m,cy,rfl,-,-⟩:=VS.form V.htlcs
 obtain ⟨az,q,cz,rfl,-,-⟩:=VS.form V.circles
 have PE:=bN w [.int .i64 9,ky,ch,tt,am,fe,ys] 73
 have b0:=bA w [.int .i64 9,ky,ch,tt,am,fe,ys] 73
 obtain ⟨ue,hue⟩:∃ u,u=w.heap.size:=⟨_,rfl⟩
 rw [← hue] at PE
 have nE:=H.fresh
 rw [← hue] at nE
 go_enter Tryz.func178,Tryz.ntmps178
 go_upto_region 1 with fail
 rw [← hue]
 generalize w.alloc (.cells #[.int .i64 9,ky,ch,tt,am,fe,ys] 73)=w0 at PE b0 ⊢
 have H0:=H.keep b0
 have P0:=P.keep b0
 have V0:=V.keep b0
 have W0:Wf g F F w w0:=Wf.of_below b0
 clear b0 P V H hue
 have CK:=vY (.slice ax n cx) (.slice ay m cy) (.slice az q cz) b ky
 simp only [← hq9] at CK
 have HQ9:=lH hq9
 clear hq9
 obtain ⟨p0,p1,p2,p3,p4,p5⟩:=P0.c6
 have c1:=PE.cell 1 _ rfl
 go_cut [] (fun wq=>Wk F (.slice ax n cx) wq g B b [] (AG q9 9 0)∧Wf g F F w0 wq)
 case first =>
  go_region_with (first
   | (go_at_call 262;refine (CK _ (V0.keep (bW))).mono ?_;rintro e w1 ⟨rfl,b1⟩;have b01:Below w0 w0 w1:=(bW);have H1:=H0.keep b01)
   | (go_at_call 260;refine (D5 F _ g B b [] 0 9 q9 w1 H1).mono ?_;rintro e w2 ⟨rfl,H2,W2⟩))
  all_goals
   go_wp2_with fail
   go_meet
   case rel=>exact ⟨H2,(Wf.of_below b01).trans W2⟩
 case rest =>
  obtain ⟨H5,W2⟩:=hcut
  obtain ⟨w2,hw2⟩:∃ x,x=wc:=⟨_,rfl⟩
  subst hw2
  have WX:=W0.trans W2
  obtain ⟨PE,nE⟩:=W2.box PE nE
  clear p0 p1 p2 p3 p4 p5 c1 P0 CK H0 V0 W0 W2
  obtain ⟨k1,hk1⟩:∃ k:Int,k=AG q9 9 0:=⟨_,rfl⟩
  rw [← hk1] at H5
  have HK1:=lH hk1
  clear hk1
  have c2:=PE.cell 2 _ rfl
  go_wp2_with fail
  refine (QC F _ g B b [] _ ch _ H5).mono ?_
  rintro e w3 ⟨p1,o1,rfl,T1,H3,W3,Y1⟩
  rw [← HA.out] at T1 Y1
  obtain ⟨PE,nE⟩:=W3.box PE nE
  have WX:=WX.trans W3
  clear c2 W3 H5
  obtain ⟨k2,hk2⟩:∃ k:Int,k=AG (!AI b.chans ch) 6 k1:=⟨_,rfl⟩
  rw [← hk2] at H3
  have HK2:=lH hk2
  clear hk2
  have c3:=PE.cell 3 _ rfl
  go_wp2_with fail
  refine (QC F _ g B b [] _ tt _ H3).mono ?_
  rintro e w4 ⟨p2,o2,rfl,T2,H4,W4,Y2⟩
  rw [← HD.out] at T2 Y2
  have T1:=T1.keep W4
  obtain ⟨PE,nE⟩:=W4.box PE nE
  have WX:=WX.trans W4
  clear c3 W4 H3
  obtain ⟨k3,hk3⟩:∃ k:Int,k=AG (!AI b.chans tt) 6 k2:=⟨_,rfl⟩
  rw [← hk3] at H4
  have HK3:=lH hk3
  clear hk3
  have bA:=MO hb ch
  have bD:=MO hb tt
  rw [← HA.out] at bA
  rw [← HD.out] at bD
  obtain ⟨bA1,bA2,bA3,bA4⟩:=bA
  obtain ⟨bD1,bD2,bD3,bD4⟩:=bD
  unfold Am at bA1 bA2 bA3 bD1 bD2 bD3
  obtain ⟨y4,z4,l4,P4,V4,-⟩:=H4.cells
  obtain ⟨af,nf,cf,rfl,hnf,-⟩:=VS.form V4.circles
  have pf:=P4.cell 5 _ rfl
  have HNF:=lH hnf
  clear hnf V4
  go_wp2_with fail
  refine (D5 F _ g B b [] _ 14 _ _ H4).mono ?_
  rintro e w6 ⟨rfl,H5,W6⟩
  have h14:decide ((20:Int)≤(nf:Int))=decide (20≤b.circles.length):=dd (by rw [HNF.out];omega)
  rw [h14] at H5
  have T1:=T1.keep W6
  have T2:=T2.keep W6
  obtain ⟨PE,nE⟩:=W6.box PE nE
  have WX:=WX.trans W6
  clear pf P4 H4 W6 h14 HNF
  obtain ⟨k4,hk4⟩:∃ k:Int,k=AG (decide (20≤b.circles.length)) 14 k3:=⟨_,rfl⟩
  rw [← hk4] at H5
  have HK4:=lH hk4
  clear hk4
  have c4:=PE.cell 4 _ rfl
  have c5:=PE.cell 5 _ rfl
  go_wp2_with fail
  refine (ML am fe _).mono ?_
  rintro e wA ⟨he,rfl⟩
  obtain ⟨sv,okv,rfl,hsv⟩:∃ sv okv,e = .returned (.tuple #[.int .i64 sv, .bool okv])∧((okv=true∧sv=am+fe∧am+fe≤1125899906842624)∨(okv=false∧sv=0∧1125899906842624<am+fe)):=by
   by_cases hs:am+fe≤1125899906842624
   ·rw [if_pos (by unfold CE AH Ad;simp;omega)] at he
    exact ⟨_,_,he,Or.inl ⟨rfl,rfl,hs⟩⟩
   rw [if_neg (by unfold CE AH Ad;simp;omega)] at he
   exact ⟨_,_,he,Or.inr ⟨rfl,rfl,by omega⟩⟩
  have HSV:=lH hsv
  clear he c4 c5 hsv
  go_wp2_with fail
  refine (D5 F _ g B b [] _ 10 _ _ H5).mono ?_
  rintro e w6 ⟨rfl,H6,W6⟩
  have T1:=T1.keep W6
  have T2:=T2.keep W6
  obtain ⟨PE,nE⟩:=W6.box PE nE
  have WX:=WX.trans W6
  clear  H5 W6
  have H5:=H6
  clear H6
  obtain ⟨k5,hk5⟩:∃ k:Int,k=AG (!okv) 10 k4:=⟨_,rfl⟩
  rw [← hk5] at H5
  have HK5:=lH hk5
  clear hk5
  have tf:=T1.cell H5 2 _ rfl
  go_wp2_with fail
  refine (D5 F _ g B b [] _ 12 _ _ H5).mono ?_
  rintro e w6 ⟨rfl,H6,W6⟩
  have T1:=T1.keep W6
  have T2:=T2.keep W6
  obtain ⟨PE,nE⟩:=W6.box PE nE
  have WX:=WX.trans W6
  clear tf H5 W6
  have H5:=H6
  clear H6
  obtain ⟨k6,hk6⟩:∃ k:Int,k=AG (decide (A.loc<sv)) 12 k5:=⟨_,rfl⟩
  rw [← hk6] at H5
  have HK6:=lH hk6
  clear hk6
  have c4:=PE.cell 4 _ rfl
  have tf:=T2.cell H5 3 _ rfl
  go_upto_region 8 with fail
  obtain ⟨wf,hwf⟩:∃ x,x=w6:=⟨_,rfl⟩
  rw [← hwf] at H5 WX T1 T2 PE c4 tf ⊢
  clear hwf
  go_cut [] (fun wq=>Wk F (.slice ax n cx) wq g B b [] (AG (decide (D.rem<am)) 11 k6)∧Wf g F F wf wq)
  case first =>
   go_region_with (go_at_call 260;refine (D5 F _ g B b [] _ 11 _ _ (H5.keep (bW))).mono ?_;rintro e w6 ⟨rfl,H6,W6⟩)
   all_goals
    go_wp2_with fail
    go_meet
    case rel=>exact ⟨H6,(Wf.of_below (bW)).trans W6⟩
  case rest =>
   clear H5
   obtain ⟨H5,W6⟩:=hcut
   obtain ⟨w7,hw7⟩:∃ x,x=wc:=⟨_,rfl⟩
   subst hw7
   have T1:=T1.keep W6
   have T2:=T2.keep W6
   obtain ⟨PE,nE⟩:=W6.box PE nE
   have WX:=WX.trans W6
   clear c4 tf W6
   obtain ⟨k7,hk7⟩:∃ k:Int,k=AG (decide (D.rem<am)) 11 k6:=⟨_,rfl⟩
   rw [← hk7] at H5
   have HK7:=lH hk7
   clear hk7
   have hk7:k7=cd:=by
    rw [HCODE.out,HK7.out,HK6.out,HK5.out,HK4.out,HK3.out,HK2.out,HK1.out,Px _ _ _ _ dC]
    rcases HSV.out with ⟨rfl,rfl,hs⟩ | ⟨rfl,rfl,hs⟩
    ·rw [decide_eq_false (show ¬ 1125899906842624<am+fe by omega)]
     rfl
    rw [decide_eq_true (show 1125899906842624<am+fe by omega)]
    have hz:=Yh (c:=10) dC (AG (decide (20≤b.circles.length)) 14 (AG (!(AI b.chans ch && AI b.chans tt)) 6 (AG q9 9 0)))
    show AG _ 11 (AG _ 12 (AG true 10 _))=AG _ 11 (AG _ 12 (AG true 10 _))
    generalize AG true 10 _=z at hz ⊢
    have hz':∀ q c,AG q c z=z:=fun q c=>Jm q c z hz
    simp only [hz']
   by_cases h0:cd=0;rotate_left
   ·have e7:(k7 != 0)=true:=by rw [hk7];simp [h0]
    obtain ⟨yq,zq,lq,PQ,-,-⟩:=H5.cells
    have pq:=PQ.cell 7 _ rfl
    go_wp2
    (try simp only [Exit.inBlock,Exit.then])
    refine bodyPost_ret (results_none rfl _ _ _) rfl ?_
    rw [hk7] at H5
    exact ⟨rfl,F,_,b,[],H5,WX,fun e=>absurd e h0⟩
   have hcA:=HCODE.out.symm
   rw [h0] at hcA
   obtain ⟨r11,hcB⟩:=Bg hcA dC
   obtain ⟨r12,hcC⟩:=Bg hcB dC
   obtain ⟨r10,hcD⟩:=Bg hcC dC
   obtain ⟨r14,hcE⟩:=Bg hcD dC
   obtain ⟨r6,hcF⟩:=Bg hcE dC
   clear hcA hcB hcC hcD hcE hcF
   have r11:=of_decide_eq_false r11
   have r12:=of_decide_eq_false r12
   have r10:=of_decide_eq_false r10
   obtain ⟨rfl,rfl⟩:okv=true∧sv=am+fe:=by
    rcases HSV.out with ⟨h1,h2,-⟩ | ⟨-,-,h3⟩
    ·exact ⟨h1,h2⟩
    exact absurd h3 r10
   rw [hk7,h0] at H5
   clear r14 HK1 HK2 HK3 HK4 HK5 HK6 HK7 HCODE HSV
   have hc1:AI b.chans ch=true:=by simp at r6;exact r6.1
   have hc2:AI b.chans tt=true:=by simp at r6;exact r6.2
   obtain ⟨n1,cc1,ia,hxe,rfl,ai⟩:=Y1 hc1
   obtain ⟨n2,cc2,jd,hxe2,rfl,di⟩:=Y2 hc2
   simp only [Value.slice.injEq] at hxe
   obtain ⟨rfl,rfl,rfl⟩:=hxe
   have e1:p1=p2:=by (simp at hxe2;omega)
   subst e1
   have aid:A.id=ch:=by rw [HA.out];exact (Ei hc1).2
   have did:D.id=tt:=by rw [HD.out];exact (Ei hc2).2
   have hso:=hb.so
   have aok:=H5.oks A (List.mem_of_getElem? ai)
   have dok:=H5.oks D (List.mem_of_getElem? di)
   clear hxe2 Y1 Y2 T1 T2
   subst h0
   have e7:((0:Int) != 0)=false:=rfl
   obtain ⟨yq,zq,lq,PQ,-,-⟩:=H5.cells
   have pq:=PQ.cell 7 _ rfl
   have c1:=PE.cell 1 _ rfl
   have c2:=PE.cell 2 _ rfl
   have c3:=PE.cell 3 _ rfl
   have c4:=PE.cell 4 _ rfl
   have c5:=PE.cell 5 _ rfl
   obtain ⟨ar,nr,cr,pr,hnr,hncr,OR,VR,HR⟩:=H5.ci
   obtain ⟨yp,zp,lp,PP,-,-⟩:=H5.cells
   have zr:=PP.fz 5 AF
   have hgr:=PP.lt
   have hBw:=H5.lt.2.1
   have hgB:=H5.lt.1
   have OKS:=VR.oks
   have hsm:b.circles.length≤20:=hb.pk.c20
   obtain ⟨L,hL⟩:∃ l,l=b.circles ++ [(⟨ky,ch,tt,am,fe⟩:Ci)]:=⟨_,rfl⟩
   have hoks:∀ y∈L,y.ok:=fun y hy=>by
    rw [hL] at hy
    rcases List.mem_append.1 hy with hy | hy
    ·exact OKS y hy
    rw [List.mem_singleton.1 hy];exact ⟨by unfold AE;dsimp only;omega,by unfold AE;dsimp only;omega,by unfold AE;dsimp only;omega,by unfold AE;dsimp only;omega,by unfold AE;dsimp only;omega⟩
   have hown:=Cj OR
   have HOWN:=lH hown
   have HOKS:=lH hoks
   have HL:=lH hL
   have HNR:=lH hnr
   have hnrS:nr≤60:=by omega
   have pw:w7.cell? ⟨g,5,none⟩=some (.slice ar nr cr):=pr
   have hin:=H5.ciIn pw
   have HIN:=lH hin
   have hneq:¬ ue=g:=fun e=>nE (by simp [e])
   have hneq':¬ g=ue:=fun e=>nE (by simp [e])
   have hul:=PE.lt
   clear hL hoks OKS hnr hown pr hin
   go_upto_region 10 with fail
   go_cut [] (fun wq=>∃ F',Wk F' (.slice (some ⟨p1,0,none⟩) n cx) wq g B {b with circles:=L} [] 0∧Wf g F F' w7 wq)
   case first =>
    refine wp_region_noPanic ?_
    refine wp_region_held_drew (S:=fun w'=>w'.cell? ⟨ue,1,none⟩=.some ky∧w'.cell? ⟨ue,2,none⟩=.some ch∧w'.cell? ⟨ue,3,none⟩=.some tt∧w'.cell? ⟨ue,4,none⟩=.some am∧w'.cell? ⟨ue,5,none⟩=.some fe) kR ?_ (fun hHeld => ?_)
    ·(try dsimp only)
     go_keep
    refine wpAnyH_take (i:=0) (v := .pointer (some ⟨g,0,none⟩)) rfl kR kR kR (fun _ _ _ h=>h) (Or.inl ⟨by rfl,?_⟩) aS ?_
    ·intro w hSw
     (try dsimp only at hSw)
     go_simp
    try simp only [Act.put,List.setIfInBounds_toArray,List.set_cons_zero,List.set_cons_succ]
    refine wpAnyH_take (i:=1) (v := .pointer (some ⟨g,0,none⟩)) rfl kR kR kR (fun _ _ _ h=>h) (Or.inl ⟨by rfl,?_⟩) aS ?_
    ·intro w hSw
     (try dsimp only at hSw)
     go_simp
    try simp only [Act.put,List.setIfInBounds_toArray,List.set_cons_zero,List.set_cons_succ]
    refine wpAnyH_take (i:=2) (v := .pointer (some ⟨g,0,none⟩)) rfl kR kR kR (fun _ _ _ h=>h) (Or.inl ⟨by rfl,?_⟩) aS ?_
    ·intro w hSw
     (try dsimp only at hSw)
     go_simp
    try simp only [Act.put,List.setIfInBounds_toArray,List.set_cons_zero,List.set_cons_succ]
    refine wpAnyH_take (i:=3) (v := .pointer (some ⟨g,0,none⟩)) rfl kR kR kR (fun _ _ _ h=>h) (Or.inl ⟨by rfl,?_⟩) aS ?_
    ·intro w hSw
     (try dsimp only at hSw)
     go_simp
    try simp only [Act.put,List.setIfInBounds_toArray,List.set_cons_zero,List.set_cons_succ]
    refine wpAnyH_take (i:=4) (v := .pointer (some ⟨g,5,none⟩)) rfl kR kR kR (fun _ _ _ h=>h) (Or.inl ⟨by rfl,?_⟩) aS ?_
    ·intro w hSw
     (try dsimp only at hSw)
     go_simp
    try simp only [Act.put,List.setIfInBounds_toArray,List.set_cons_zero,List.set_cons_succ]
    refine wpAnyH_take (i:=6) (v := .pointer (some ⟨ue,1,none⟩)) rfl kR kR kR (fun _ _ _ h=>h) (Or.inl ⟨by rfl,?_⟩) aS ?_
    ·intro w hSw
     (try dsimp only at hSw)
     go_simp
    try simp only [Act.put,List.setIfInBounds_toArray,List.set_cons_zero,List.set_cons_succ]
    refine wpAnyH_take (i:=7) (v := .int .i64 ky) rfl kR kR kR (fun _ _ _ h=>h) (Or.inl ⟨by rfl,?_⟩) aS ?_
    ·intro w hSw
     (try dsimp only at hSw)
     go_simp
    try simp only [Act.put,List.setIfInBounds_toArray,List.set_cons_zero,List.set_cons_succ]
    refine wpAnyH_take (i:=8) (v := .pointer (some ⟨ue,2,none⟩)) rfl kR kR kR (fun _ _ _ h=>h) (Or.inl ⟨by rfl,?_⟩) aS ?_
    ·intro w hSw
     (try dsimp only at hSw)
     go_simp
    try simp only [Act.put,List.setIfInBounds_toArray,List.set_cons_zero,List.set_cons_succ]
    refine wpAnyH_take (i:=9) (v := .int .i64 ch) rfl kR kR kR (fun _ _ _ h=>h) (Or.inl ⟨by rfl,?_⟩) aS ?_
    ·intro w hSw
     (try dsimp only at hSw)
     go_simp
    try simp only [Act.put,List.setIfInBounds_toArray,List.set_cons_zero,List.set_cons_succ]
    refine wpAnyH_take (i:=10) (v := .pointer (some ⟨ue,3,none⟩)) rfl kR kR kR (fun _ _ _ h=>h) (Or.inl ⟨by rfl,?_⟩) aS ?_
    ·intro w hSw
     (try dsimp only at hSw)
     go_simp
    try simp only [Act.put,List.setIfInBounds_toArray,List.set_cons_zero,List.set_cons_succ]
    refine wpAnyH_take (i:=11) (v := .int .i64 tt) rfl kR kR kR (fun _ _ _ h=>h) (Or.inl ⟨by rfl,?_⟩) aS ?_
    ·intro w hSw
     (try dsimp only at hSw)
     go_simp
    try simp only [Act.put,List.setIfInBounds_toArray,List.set_cons_zero,List.set_cons_succ]
    refine wpAnyH_take (i:=12) (v := .pointer (some ⟨ue,4,none⟩)) rfl kR kR kR (fun _ _ _ h=>h) (Or.inl ⟨by rfl,?_⟩) aS ?_
    ·intro w hSw
     (try dsimp only at hSw)
     go_simp
    try simp only [Act.put,List.setIfInBounds_toArray,List.set_cons_zero,List.set_cons_succ]
    refine wpAnyH_take (i:=13) (v := .int .i64 am) rfl kR kR kR (fun _ _ _ h=>h) (Or.inl ⟨by rfl,?_⟩) aS ?_
    ·intro w hSw
     (try dsimp only at hSw)
     go_simp
    try simp only [Act.put,List.setIfInBounds_toArray,List.set_cons_zero,List.set_cons_succ]
    refine wpAnyH_take (i:=14) (v := .pointer (some ⟨ue,5,none⟩)) rfl kR kR kR (fun _ _ _ h=>h) (Or.inl ⟨by rfl,?_⟩) aS ?_
    ·intro w hSw
     (try dsimp only at hSw)
     go_simp
    try simp only [Act.put,List.setIfInBounds_toArray,List.set_cons_zero,List.set_cons_succ]
    refine wpAnyH_take (i:=15) (v := .int .i64 fe) rfl kR kR kR (fun _ _ _ h=>h) (Or.inl ⟨by rfl,?_⟩) aS ?_
    ·intro w hSw
     (try dsimp only at hSw)
     go_simp
    try simp only [Act.put,List.setIfInBounds_toArray,List.set_cons_zero,List.set_cons_succ]
    refine wpAnyH_take (i:=16) (v := .agg #[ky,ch,tt,am,fe]) rfl kR kR kR (fun _ _ _ h=>h) (Or.inl ⟨by rfl,?_⟩) aS ?_
    ·intro w hSw
     (try dsimp only at hSw)
     go_simp
    try simp only [Act.put,List.setIfInBounds_toArray,List.set_cons_zero,List.set_cons_succ]
    refine wpAnyH_ready (rs := [5,17]) kR sM ?_
    refine AllReadyH.cons rfl (fun K hK => ?_) ?_
    ·go_simp
     refine sO hK fun hHeld => ?_
     clear hK K
     refine wpAnyH_ready (rs := [17]) kR sM ?_
     refine AllReadyH.cons rfl (fun K hK => ?_) AllReadyH.nil
     go_simp
     refine sO hK fun hHeld => ?_
     clear hK K
     refine wpAnyH_ready (rs := [18]) kR sM ?_
     refine AllReadyH.cons rfl (fun K hK => ?_) AllReadyH.nil
     refine Jx IM Tryz.underlying52 rfl dC dC (fun _=>rfl) I3 rfl _ _ rfl B (.slice ar nr cr) b.circles rfl (by first | exact AC.alloc (w:=w7.drew) (AC.drew OR) _ | exact AC.alloc (AC.drewN OR _) _ | exact AC.alloc OR _) _ (⟨ky,ch,tt,am,fe⟩:Ci) rfl (BC _ _ _ rfl) (by have:=HNR.out;omega) (by first | exact Nat.le_trans hBw (Aj _ _) | (simp;omega)) ?_
     intro v8 w8 o8 g8 f8
     rw [← HL.out] at o8
     obtain ⟨a8,c8,rfl,-⟩:=AC.of (ok:=fun _=>True) o8 (fun _ _=>trivial)
     have E8:Ex (Value.slice ar nr cr).ownBlock.toList w7 w8:=(Ex.of_below (Ae (Below.drew (Below.refl _ _)) _) _).trans (Ex.of_grown g8)
     have P8:=PP.ex E8 (fun hm=>H5.gF (HIN.out g hm))
     have p8:=P8.cell 5 _ rfl
     have z8:=P8.fz 5 AF
     have FR:∀ k∈(Value.slice a8 L.length c8).ownBlock.toList,k∈(Value.slice ar nr cr).ownBlock.toList∨w7.heap.size≤k:=(fun k hk=>by (rcases f8 k (by simpa using hk) with h | h);exact Or.inl (by simpa using h);exact Or.inr (by first | omega | (simp at h;omega)))
     have HFR:=lH FR
     have PE8:=PE.ex E8 (fun hm=>nE (List.mem_cons_of_mem _ (HIN.out ue hm)))
     have d1:=PE8.cell 1 _ rfl
     have d2:=PE8.cell 2 _ rfl
     have d3:=PE8.cell 3 _ rfl
     have d4:=PE8.cell 4 _ rfl
     have d5:=PE8.cell 5 _ rfl
     clear FR f8 g8
     refine sO hK fun hHeld => ?_
     clear hK K
     refine wpAnyH_take (i:=19) (v := .pointer (some ⟨g,0,none⟩)) rfl kR kR kR (fun _ _ _ h=>h) (Or.inl ⟨by rfl,?_⟩) aS ?_
     ·intro w hSw
      (try dsimp only at hSw)
      go_simp
     try simp only [Act.put,List.setIfInBounds_toArray,List.set_cons_zero,List.set_cons_succ]
     refine wpAnyH_take (i:=20) (v := .pointer (some ⟨g,0,none⟩)) rfl kR kR kR (fun _ _ _ h=>h) (Or.inl ⟨by rfl,?_⟩) aS ?_
     ·intro w hSw
      (try dsimp only at hSw)
      go_simp
     try simp only [Act.put,List.setIfInBounds_toArray,List.set_cons_zero,List.set_cons_succ]
     refine wpAnyH_take (i:=21) (v := .pointer (some ⟨g,5,none⟩)) rfl kR kR kR (fun _ _ _ h=>h) (Or.inl ⟨by rfl,?_⟩) aS ?_
     ·intro w hSw
      (try dsimp only at hSw)
      go_simp
     try simp only [Act.put,List.setIfInBounds_toArray,List.set_cons_zero,List.set_cons_succ]
     refine wpAnyH_ready (rs := [22]) kR sM ?_
     refine AllReadyH.cons rfl (fun K hK => ?_) AllReadyH.nil
     go_simp
     refine sO hK fun hHeld => ?_
     clear hK K
     refine wpAnyH_done kR ?_ _
     refine NoPanic.normal ?_
     obtain ⟨F',FK,FW⟩:=HR w8 _ L E8 o8 HFR.out HOKS.out
     go_wp2_with fail
     all_goals
      go_meet
      case rel=>first | exact ⟨F',FK,FW⟩ | exact ⟨F',FK.keep (Below.drew (Below.refl _ _)),FW.trans (Wf.of_below (Below.drew (Below.refl _ _)))⟩
    refine AllReadyH.cons rfl (fun K hK => ?_) AllReadyH.nil
    go_simp
    refine sO hK fun hHeld => ?_
    clear hK K
    refine wpAnyH_ready (rs := [5]) kR sM ?_
    refine AllReadyH.cons rfl (fun K hK => ?_) AllReadyH.nil
    go_simp
    refine sO hK fun hHeld => ?_
    clear hK K
    refine wpAnyH_ready (rs := [18]) kR sM ?_
    refine AllReadyH.cons rfl (fun K hK => ?_) AllReadyH.nil
    refine Jx IM Tryz.underlying52 rfl dC dC (fun _=>rfl) I3 rfl _ _ rfl B (.slice ar nr cr) b.circles rfl (by first | exact AC.alloc (w:=w7.drew) (AC.drew OR) _ | exact AC.alloc (AC.drewN OR _) _ | exact AC.alloc OR _) _ (⟨ky,ch,tt,am,fe⟩:Ci) rfl (BC _ _ _ rfl) (by have:=HNR.out;omega) (by first | exact Nat.le_trans hBw (Aj _ _) | (simp;omega)) ?_
    intro v8 w8 o8 g8 f8
    rw [← HL.out] at o8
    obtain ⟨a8,c8,rfl,-⟩:=AC.of (ok:=fun _=>True) o8 (fun _ _=>trivial)
    have E8:Ex (Value.slice ar nr cr).ownBlock.toList w7 w8:=(Ex.of_below (Ae (Below.drew (Below.refl _ _)) _) _).trans (Ex.of_grown g8)
    have P8:=PP.ex E8 (fun hm=>H5.gF (HIN.out g hm))
    have p8:=P8.cell 5 _ rfl
    have z8:=P8.fz 5 AF
    have FR:∀ k∈(Value.slice a8 L.length c8).ownBlock.toList,k∈(Value.slice ar nr cr).ownBlock.toList∨w7.heap.size≤k:=(fun k hk=>by (rcases f8 k (by simpa using hk) with h | h);exact Or.inl (by simpa using h);exact Or.inr (by first | omega | (simp at h;omega)))
    have HFR:=lH FR
    have PE8:=PE.ex E8 (fun hm=>nE (List.mem_cons_of_mem _ (HIN.out ue hm)))
    have d1:=PE8.cell 1 _ rfl
    have d2:=PE8.cell 2 _ rfl
    have d3:=PE8.cell 3 _ rfl
    have d4:=PE8.cell 4 _ rfl
    have d5:=PE8.cell 5 _ rfl
    clear FR f8 g8
    refine sO hK fun hHeld => ?_
    clear hK K
    refine wpAnyH_take (i:=19) (v := .pointer (some ⟨g,0,none⟩)) rfl kR kR kR (fun _ _ _ h=>h) (Or.inl ⟨by rfl,?_⟩) aS ?_
    ·intro w hSw
     (try dsimp only at hSw)
     go_simp
    try simp only [Act.put,List.setIfInBounds_toArray,List.set_cons_zero,List.set_cons_succ]
    refine wpAnyH_take (i:=20) (v := .pointer (some ⟨g,0,none⟩)) rfl kR kR kR (fun _ _ _ h=>h) (Or.inl ⟨by rfl,?_⟩) aS ?_
    ·intro w hSw
     (try dsimp only at hSw)
     go_simp
    try simp only [Act.put,List.setIfInBounds_toArray,List.set_cons_zero,List.set_cons_succ]
    refine wpAnyH_take (i:=21) (v := .pointer (some ⟨g,5,none⟩)) rfl kR kR kR (fun _ _ _ h=>h) (Or.inl ⟨by rfl,?_⟩) aS ?_
    ·intro w hSw
     (try dsimp only at hSw)
     go_simp
    try simp only [Act.put,List.setIfInBounds_toArray,List.set_cons_zero,List.set_cons_succ]
    refine wpAnyH_ready (rs := [22]) kR sM ?_
    refine AllReadyH.cons rfl (fun K hK => ?_) AllReadyH.nil
    go_simp
    refine sO hK fun hHeld => ?_
    clear hK K
    refine wpAnyH_done kR ?_ _
    refine NoPanic.normal ?_
    obtain ⟨F',FK,FW⟩:=HR w8 _ L E8 o8 HFR.out HOKS.out
    go_wp2_with fail
    all_goals
     go_meet
     case rel=>first | exact ⟨F',FK,FW⟩ | exact ⟨F',FK.keep (Below.drew (Below.refl _ _)),FW.trans (Wf.of_below (Below.drew (Below.refl _ _)))⟩
   case rest =>
    obtain ⟨F',H6,W6⟩:=hcut
    obtain ⟨w8,hw8⟩:∃ x,x=wc:=⟨_,rfl⟩
    subst hw8
    clear H5 HR OR VR PP zr pw HOWN hBw hgr
    have H5:=H6
    obtain ⟨PE,nE⟩:=W6.box PE nE
    have WX:=WX.trans W6
    clear H6 W6
    clear pq PQ c1 c2 c3 c4 c5
    have AT:=H5.at ai aid hso
    have cA:_=some (Value.int IntKind.i64 (A.loc)):=AT.1 2 _ rfl
    have zA:=AT.2.1 (ia*7+2)
    have hwr1:IntKind.i64.wrap (A.loc - (am+fe))=A.loc - (am+fe):=by rw [IntKind.wrap_i64];omega
    have FIN:=AT.2.2 2 (.int .i64 (A.loc - (am+fe))) (AO (-(am+fe)) 0) dC (by simp [Cn.enc,AO];try omega) (EG aok uI uI)
    have FW:=FIN.2
    have FK:=FIN.1
    obtain ⟨PE',nE'⟩:=FW.box PE nE
    have WX':=WX.trans FW
    clear FIN AT FW H5 PE nE WX
    go_upto_region 12 with fail
    generalize World.setCell w8 ⟨p1,ia*7+2,none⟩ (Value.int IntKind.i64 (A.loc - (am+fe)))=wb1 at FK PE' WX' ⊢
    have H5:=FK
    have PE:=PE'
    have nE:=nE'
    have WX:=WX'
    clear FK PE' nE' WX' cA zA
    have di2:=Fw (ch:=ch) (f:=(AO (-(am+fe)) 0)) di (by rw [did];exact hct.symm)
    have AT:=H5.at di2 did (D6 (fun _=>rfl) hso)
    have cA:_=some (Value.int IntKind.i64 (D.rem)):=AT.1 3 _ rfl
    have zA:=AT.2.1 (jd*7+3)
    have c4:=PE.cell 4 _ rfl
    have hwr2:IntKind.i64.wrap (D.rem - am)=D.rem - am:=by rw [IntKind.wrap_i64];omega
    have FIN:=AT.2.2 3 (.int .i64 (D.rem - am)) (AO 0 (-am)) dC (by simp [Cn.enc,AO];try omega) (EG dok uI uI)
    have FW:=FIN.2.trans (Wf.of_below (Below.drew (Below.refl _ _)))
    have FK:=FIN.1.keep (Below.drew (Below.refl _ _))
    obtain ⟨PE',nE'⟩:=FW.box PE nE
    have WX':=WX.trans FW
    clear FIN AT FW H5 PE nE WX
    go_cut [] (fun wq=>wq=World.drew (World.setCell wb1 ⟨p1,jd*7+3,none⟩ (Value.int IntKind.i64 (D.rem - am))))
    case first =>
     go_region_with (fail)
     all_goals
      go_wp2_with fail
      go_meet
      case rel=>rfl
    case' rest =>
     obtain ⟨wb2,hwn⟩:∃ x,x=wc:=⟨_,rfl⟩
     subst hwn
     rw [← hcut] at FK PE' WX'
     clear hcut
    have H5:=FK
    have PE:=PE'
    have nE:=nE'
    have WX:=WX'
    clear FK PE' nE' WX' cA zA c4
    have LI:=LsIn.nil
    have c2:=PE.cell 2 _ rfl
    have hwr3:IntKind.i64.wrap (-(am+fe)) = -(am+fe):=by rw [IntKind.wrap_i64];omega
    obtain ⟨hg,LI⟩:=LsIn.add LI (x:=⟨6,ch,-(am+fe)⟩) sM Cq uL sM
    go_wp2_with fail
    refine (DJ _ _ g B _ _ 0 6 ch (-(am+fe)) _ H5 hg).mono ?_
    rintro e w9 ⟨rfl,F9,H9,W9⟩
    obtain ⟨PE,nE⟩:=W9.box PE nE
    have H5:=H9
    have WX:=WX.trans W9
    clear H9 W9 hg c2
    have c2:=PE.cell 2 _ rfl
    obtain ⟨hg,LI⟩:=LsIn.add LI (x:=⟨8,ch,am+fe⟩) sM Cq uL sM
    go_wp2_with fail
    refine (DJ _ _ g B _ _ 0 8 ch (am+fe) _ H5 hg).mono ?_
    rintro e w9 ⟨rfl,F9,H9,W9⟩
    obtain ⟨PE,nE⟩:=W9.box PE nE
    have H5:=H9
    have WX:=WX.trans W9
    clear H9 W9 hg c2
    go_wp2
    go_end0
    rw [Gb,Gy] at H5
    ·refine ⟨rfl,_,_,_,_,H5,WX,?_⟩
     try intro _
     have hdo:Al b ⟨9,ky,ch,tt,am,fe,ys⟩=({b with circles:=b.circles ++ [⟨ky,ch,tt,am,fe⟩],chans:=AU (AU b.chans ch (AO (-(am+fe)) 0)) tt (AO 0 (-am))},BL [⟨6,ch,-(am+fe)⟩,⟨8,ch,am+fe⟩]):=rfl
     rw [hdo,HL.out]
     exact ⟨rfl,rfl⟩
    all_goals simp
end Go.Proofs.YtahefgkdbecemaaGreat
