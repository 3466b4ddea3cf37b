/- A channel opened (spec). -/
import Derived.Test.YtahefgkdbecemaaGreatQ7
import Derived.Test.YtahefgkdbecemaaGreatQ23
import Derived.Test.YtahefgkdbecemaaGreatQ22
import Derived.Test.YtahefgkdbecemaaGreatQ6
import Derived.Test.YtahefgkdbecemaaGreatQ8
import Derived.BigRegion
namespace Go.Proofs.YtahefgkdbecemaaGreat
open Go.RowKit
set_option linter.unusedVariables false
set_option linter.unusedSimpArgs false
set_option maxRecDepth 100000
set_option maxHeartbeats 12800000
theorem A03 (F:List Nat) (x:Value) (g B:Nat) (b:Bk) (k0 ky ch tt am fe:Int) (ys:Bool) (w:World) (H:Wk F x w g B b [] 0) (hb:Bok b) (hn:decide (b.next=1125899906842624)=false) (hk0:k0=2) (hch:1≤ch∧ch≤99) (ha:0≤am∧am≤1125899906842624) (hf:0≤fe∧fe≤1125899906842624):Calls Tryz.prog 152 #[.pointer (some ⟨g,0,none⟩), .agg #[k0,ky,ch,tt,am,fe,ys]] w fun e w'=>e = .returned (.tuple #[])∧Dn F g B b ⟨2,ky,ch,tt,am,fe,ys⟩ w w':=by
 subst hk0
 have hcode:=A0J (b:=b) (e:=⟨2,ky,ch,tt,am,fe,ys⟩) hn rfl
 unfold Dn
 generalize AQ b ⟨2,ky,ch,tt,am,fe,ys⟩=cd at hcode ⊢
 dsimp only at hcode
 have hcl:b.chans.length≤20:=hb.n20
 obtain ⟨y,z,l,P,V,-⟩:=H.cells
 obtain ⟨ax,n,cx,rfl,hn,-⟩:=VS.form V.chans
 obtain ⟨ay,m,cy,rfl,-,-⟩:=VS.form V.htlcs
 obtain ⟨az,q,cz,rfl,-,-⟩:=VS.form V.circles
 have HN:=lH hn
 have hnB:=VS.lenB V.chans
 clear hn
 have PE:=bN w [.int .i64 2,ky,ch,tt,am,fe,ys] 73
 have b0:=bA w [.int .i64 2,ky,ch,tt,am,fe,ys] 73
 obtain ⟨ue,hue⟩:∃ u,u=w.heap.size:=⟨_,rfl⟩
 rw [← hue] at PE
 have nE:=H.fresh
 rw [← hue] at nE
 go_enter Tryz.func152,Tryz.ntmps152
 go_upto_region 1 with fail
 rw [← hue]
 generalize w.alloc (.cells #[.int .i64 2,ky,ch,tt,am,fe,ys] 73)=w0 at PE b0 ⊢
 have H0:=H.keep b0
 have P0:=P.keep b0
 have V0:=V.keep b0
 have W0:Wf g F F w w0:=Wf.of_below b0
 clear b0 P V H hue
 have c4:=PE.cell 4 _ rfl
 have c5:=PE.cell 5 _ rfl
 go_wp2_with fail
 refine (J4 am fe _).mono ?_
 rintro e wA ⟨he,rfl⟩
 obtain ⟨sv,okv,rfl,hok,hsv⟩:∃ sv okv,e = .returned (.tuple #[.int .i64 sv, .bool okv])∧okv=(!decide (1125899906842624<am+fe))∧(okv=true→sv=am+fe):=by
  by_cases hs:am+fe≤1125899906842624
  ·rw [if_pos (by unfold CE AH Ad;simp;omega)] at he
   exact ⟨_,_,he,by simp;omega,fun _=>rfl⟩
  rw [if_neg (by unfold CE AH Ad;simp;omega)] at he
  exact ⟨_,_,he,by simp;omega,fun h=>by cases h⟩
 have HSV:=lH hsv
 have HOK:=lH hok
 clear he c4 c5 hsv hok
 go_upto_region 2 with fail
 have CA:=Hi (.slice ax n cx) (.slice ay m cy) (.slice az q cz) b ch
 have hneq:¬ ue=g:=fun e=>nE (by simp [e])
 have HC:=lH hcode
 clear hcode
 have BD:Below w0 w0 w0.drew:=Below.drew (Below.refl _ _)
 have HD:=H0.keep BD
 have PD:=P0.keep BD
 have D7:=PD.cell 7 _ rfl
 have DF:=PD.fz 7 AF
 have D_ue:=PE.keep BD
 obtain ⟨ds0,ds1,ds2,ds3,ds4,ds5⟩:=PD.c6
 have due2:=D_ue.cell 2 _ rfl
 have due4:=D_ue.cell 4 _ rfl
 go_cut [55] (fun v wq=>v = .bool (cd != 0)∧Wk F (.slice ax n cx) wq g B b [] cd∧Wf g F F w0 wq)
 case first =>
  cases okv with
  | false =>
   have hb1:decide (1125899906842624<am+fe)=true:=by have:=HOK.out;simpa using this
   have HB1:=lH hb1
   clear hb1
   have HCD:Hid (cd=2):=by unfold Hid;rw [HC.out];rw [HB1.out];cases AI b.chans ch || decide (20≤b.chans.length)<;>cases decide (b.wallet<am)<;>rfl
   refine wp_region_noPanic ?_
   refine wp_region_held_drew (S:=fun w'=>w'.cell? ⟨g,0,none⟩=.some b.tick∧w'.cell? ⟨g,1,none⟩=.some b.next∧w'.cell? ⟨g,2,none⟩=.some b.wallet∧w'.cell? ⟨g,3,none⟩=some (.slice ax n cx)∧w'.cell? ⟨g,4,none⟩=some (.slice ay m cy)∧w'.cell? ⟨g,5,none⟩=some (.slice az q cz)∧w'.cell? ⟨ue,2,none⟩=.some ch∧w'.cell? ⟨ue,4,none⟩=.some am) kR ?_ (fun hHeld => ?_)
   ·(try dsimp only)
    go_keep
   refine tK 0 ?_
   refine tK 1 ?_
   refine tK 2 ?_
   refine tH 3 fun K hK => ?_
   go_simp
   go_at_call 149
   refine (Du g 2 _ D7 DF dC).mono ?_
   rintro e w2 ⟨rfl,hw2⟩
   have FC:=HD.setCode 2
   have PS:=PD.set1 7 (.int .i64 2) AF
   have QS0:=D_ue.otherC g 7 (.int .i64 2) hneq
   rw [hw2] at FC PS QS0
   obtain ⟨zs0,zs1,zs2,zs3,zs4,zs5⟩:=PS.c6
   have zue2:=QS0.cell 2 _ rfl
   have zue4:=QS0.cell 4 _ rfl
   clear hw2
   go_wp2_with fail
   refine sO hK fun hHeld => ?_
   clear hK K
   refine tK 4 ?_
   refine tN 5 ?_
   refine tN 6 ?_
   refine tN 7 ?_
   refine tN 8 ?_
   refine tN 9 ?_
   refine tN 10 ?_
   refine tN 11 ?_
   refine tN 12 ?_
   refine tN 13 ?_
   refine tN 14 ?_
   refine tN 15 ?_
   refine tN 16 ?_
   refine tN 17 ?_
   refine tN 18 ?_
   refine tN 19 ?_
   refine tN 20 ?_
   refine tN 21 ?_
   refine tN 22 ?_
   refine tN 23 ?_
   refine tK 24 ?_
   refine tK 25 ?_
   refine tN 26 ?_
   refine tN 27 ?_
   refine tN 28 ?_
   refine tN 29 ?_
   refine tN 30 ?_
   refine tN 31 ?_
   refine tN 32 ?_
   refine tN 33 ?_
   refine tN 34 ?_
   refine tN 35 ?_
   refine tK 36 ?_
   refine wpAnyH_done kR ?_ _
   refine NoPanic.normal ?_
   try go_wp2_with fail
   go_meet
   case rel=>exact ⟨by rw [HCD.out];rfl,by rw [HCD.out];exact ⟨FC.1,(Wf.of_below BD).trans FC.2⟩⟩
  | true =>
   have hb1:decide (1125899906842624<am+fe)=false:=by have:=HOK.out;simpa using this
   have HB1:=lH hb1
   clear hb1
   cases hh:AI b.chans ch with
   | true =>
    obtain ⟨i,_,hi,-⟩:=EH hh
    rw [hi] at CA
    have HH:=lH hh
    clear hi hh
    have HCD:Hid (cd=3):=by unfold Hid;rw [HC.out];rw [HB1.out,HH.out];cases decide (b.wallet<am)<;>rfl
    refine wp_region_noPanic ?_
    refine wp_region_held_drew (S:=fun w'=>w'.cell? ⟨g,0,none⟩=.some b.tick∧w'.cell? ⟨g,1,none⟩=.some b.next∧w'.cell? ⟨g,2,none⟩=.some b.wallet∧w'.cell? ⟨g,3,none⟩=some (.slice ax n cx)∧w'.cell? ⟨g,4,none⟩=some (.slice ay m cy)∧w'.cell? ⟨g,5,none⟩=some (.slice az q cz)∧w'.cell? ⟨ue,2,none⟩=.some ch∧w'.cell? ⟨ue,4,none⟩=.some am) kR ?_ (fun hHeld => ?_)
    ·(try dsimp only)
     go_keep
    refine tK 0 ?_
    refine tK 1 ?_
    refine tK 2 ?_
    refine tH 3 fun K hK => ?_
    go_simp
    go_at_call 149
    refine (Dr g 2 _ D7).mono ?_
    rintro e w2 ⟨rfl,rfl⟩
    go_wp2_with fail
    refine sO hK fun hHeld => ?_
    clear hK K
    refine tK 4 ?_
    refine tK 5 ?_
    refine tK 6 ?_
    refine tK 7 ?_
    refine tK 8 ?_
    refine tK 9 ?_
    refine tK 10 ?_
    refine tK 11 ?_
    refine tH 12 fun K hK => ?_
    go_simp
    go_at_call 138
    refine (CA _ (V0.keep BD)).mono ?_
    rintro e wc1 ⟨rfl,bc1⟩
    have Bc1:Below w0 w0 wc1:=Below.trans BD (Below.mono bc1 BD.size)
    have Hc1:=H0.keep Bc1
    have Pc1:=P0.keep Bc1
    have Ec10:=PE.keep Bc1
    have Zc1:=Pc1.cell 7 _ rfl
    have Fc1:=Pc1.fz 7 AF
    obtain ⟨c1s0,c1s1,c1s2,c1s3,c1s4,c1s5⟩:=Pc1.c6
    have c1ue2:=Ec10.cell 2 _ rfl
    have c1ue4:=Ec10.cell 4 _ rfl
    go_wp2_with fail
    refine sO hK fun hHeld => ?_
    clear hK K
    refine tK 13 ?_
    refine tK 14 ?_
    refine tN 15 ?_
    refine tN 16 ?_
    refine tN 17 ?_
    refine tN 18 ?_
    refine tN 19 ?_
    refine tN 20 ?_
    refine tN 21 ?_
    refine tK 22 ?_
    refine tH 23 fun K hK => ?_
    go_simp
    go_at_call 149
    refine (Du g 3 _ Zc1 Fc1 dC).mono ?_
    rintro e w2 ⟨rfl,hw2⟩
    have FC:=Hc1.setCode 3
    have PS:=Pc1.set1 7 (.int .i64 3) AF
    have QS0:=Ec10.otherC g 7 (.int .i64 3) hneq
    rw [hw2] at FC PS QS0
    obtain ⟨zs0,zs1,zs2,zs3,zs4,zs5⟩:=PS.c6
    have zue2:=QS0.cell 2 _ rfl
    have zue4:=QS0.cell 4 _ rfl
    clear hw2
    go_wp2_with fail
    refine sO hK fun hHeld => ?_
    clear hK K
    refine tK 24 ?_
    refine tK 25 ?_
    refine tN 26 ?_
    refine tN 27 ?_
    refine tN 28 ?_
    refine tN 29 ?_
    refine tN 30 ?_
    refine tN 31 ?_
    refine tN 32 ?_
    refine tN 33 ?_
    refine tN 34 ?_
    refine tN 35 ?_
    refine tK 36 ?_
    refine wpAnyH_done kR ?_ _
    refine NoPanic.normal ?_
    try go_wp2_with fail
    go_meet
    case rel=>exact ⟨by rw [HCD.out];rfl,by rw [HCD.out];exact ⟨FC.1,(Wf.of_below Bc1).trans FC.2⟩⟩
   | false =>
    rw [IW hh] at CA
    have HH:=lH hh
    clear hh
    by_cases h20:n=20
    ·have e20:((n:Int) == 20)=true:=by simp;omega
     have e21:decide (20≤b.chans.length)=true:=decide_eq_true (by have:=HN.out;omega)
     have E21:=lH e21
     clear h20 e21
     have HCD:Hid (cd=3):=by unfold Hid;rw [HC.out];rw [HB1.out,HH.out,E21.out];cases decide (b.wallet<am)<;>rfl
     refine wp_region_noPanic ?_
     refine wp_region_held_drew (S:=fun w'=>w'.cell? ⟨g,0,none⟩=.some b.tick∧w'.cell? ⟨g,1,none⟩=.some b.next∧w'.cell? ⟨g,2,none⟩=.some b.wallet∧w'.cell? ⟨g,3,none⟩=some (.slice ax n cx)∧w'.cell? ⟨g,4,none⟩=some (.slice ay m cy)∧w'.cell? ⟨g,5,none⟩=some (.slice az q cz)∧w'.cell? ⟨ue,2,none⟩=.some ch∧w'.cell? ⟨ue,4,none⟩=.some am) kR ?_ (fun hHeld => ?_)
     ·(try dsimp only)
      go_keep
     refine tK 0 ?_
     refine tK 1 ?_
     refine tK 2 ?_
     refine tH 3 fun K hK => ?_
     go_simp
     go_at_call 149
     refine (Dr g 2 _ D7).mono ?_
     rintro e w2 ⟨rfl,rfl⟩
     go_wp2_with fail
     refine sO hK fun hHeld => ?_
     clear hK K
     refine tK 4 ?_
     refine tK 5 ?_
     refine tK 6 ?_
     refine tK 7 ?_
     refine tK 8 ?_
     refine tK 9 ?_
     refine tK 10 ?_
     refine tK 11 ?_
     refine tH 12 fun K hK => ?_
     go_simp
     go_at_call 138
     refine (CA _ (V0.keep BD)).mono ?_
     rintro e wc1 ⟨rfl,bc1⟩
     have Bc1:Below w0 w0 wc1:=Below.trans BD (Below.mono bc1 BD.size)
     have Hc1:=H0.keep Bc1
     have Pc1:=P0.keep Bc1
     have Ec10:=PE.keep Bc1
     have Zc1:=Pc1.cell 7 _ rfl
     have Fc1:=Pc1.fz 7 AF
     obtain ⟨c1s0,c1s1,c1s2,c1s3,c1s4,c1s5⟩:=Pc1.c6
     have c1ue2:=Ec10.cell 2 _ rfl
     have c1ue4:=Ec10.cell 4 _ rfl
     go_wp2_with fail
     refine sO hK fun hHeld => ?_
     clear hK K
     refine tK 13 ?_
     refine tK 14 ?_
     refine tK 15 ?_
     refine tK 16 ?_
     refine tK 17 ?_
     refine tK 18 ?_
     refine tK 19 ?_
     refine tK 20 ?_
     refine tK 21 ?_
     refine tK 22 ?_
     refine tH 23 fun K hK => ?_
     go_simp
     go_at_call 149
     refine (Du g 3 _ Zc1 Fc1 dC).mono ?_
     rintro e w2 ⟨rfl,hw2⟩
     have FC:=Hc1.setCode 3
     have PS:=Pc1.set1 7 (.int .i64 3) AF
     have QS0:=Ec10.otherC g 7 (.int .i64 3) hneq
     rw [hw2] at FC PS QS0
     obtain ⟨zs0,zs1,zs2,zs3,zs4,zs5⟩:=PS.c6
     have zue2:=QS0.cell 2 _ rfl
     have zue4:=QS0.cell 4 _ rfl
     clear hw2
     go_wp2_with fail
     refine sO hK fun hHeld => ?_
     clear hK K
     refine tK 24 ?_
     refine tK 25 ?_
     refine tN 26 ?_
     refine tN 27 ?_
     refine tN 28 ?_
     refine tN 29 ?_
     refine tN 30 ?_
     refine tN 31 ?_
     refine tN 32 ?_
     refine tN 33 ?_
     refine tN 34 ?_
     refine tN 35 ?_
     refine tK 36 ?_
     refine wpAnyH_done kR ?_ _
     refine NoPanic.normal ?_
     try go_wp2_with fail
     go_meet
     case rel=>exact ⟨by rw [HCD.out];rfl,by rw [HCD.out];exact ⟨FC.1,(Wf.of_below Bc1).trans FC.2⟩⟩
    have e20:((n:Int) == 20)=false:=by simp;omega
    have e21:decide (20≤b.chans.length)=false:=decide_eq_false (by have:=HN.out;omega)
    have E21:=lH e21
    clear h20 e21
    by_cases hwl:b.wallet<am;rotate_left
    ·have ew:decide (b.wallet<am)=false:=decide_eq_false hwl
     clear hwl
     have HCD:Hid (cd=0):=by unfold Hid;rw [HC.out];rw [HB1.out,HH.out,E21.out,ew];rfl
     refine wp_region_noPanic ?_
     refine wp_region_held_drew (S:=fun w'=>w'.cell? ⟨g,0,none⟩=.some b.tick∧w'.cell? ⟨g,1,none⟩=.some b.next∧w'.cell? ⟨g,2,none⟩=.some b.wallet∧w'.cell? ⟨g,3,none⟩=some (.slice ax n cx)∧w'.cell? ⟨g,4,none⟩=some (.slice ay m cy)∧w'.cell? ⟨g,5,none⟩=some (.slice az q cz)∧w'.cell? ⟨ue,2,none⟩=.some ch∧w'.cell? ⟨ue,4,none⟩=.some am) kR ?_ (fun hHeld => ?_)
     ·(try dsimp only)
      go_keep
     refine tK 0 ?_
     refine tK 1 ?_
     refine tK 2 ?_
     refine tH 3 fun K hK => ?_
     go_simp
     go_at_call 149
     refine (Dr g 2 _ D7).mono ?_
     rintro e w2 ⟨rfl,rfl⟩
     go_wp2_with fail
     refine sO hK fun hHeld => ?_
     clear hK K
     refine tK 4 ?_
     refine tK 5 ?_
     refine tK 6 ?_
     refine tK 7 ?_
     refine tK 8 ?_
     refine tK 9 ?_
     refine tK 10 ?_
     refine tK 11 ?_
     refine tH 12 fun K hK => ?_
     go_simp
     go_at_call 138
     refine (CA _ (V0.keep BD)).mono ?_
     rintro e wc1 ⟨rfl,bc1⟩
     have Bc1:Below w0 w0 wc1:=Below.trans BD (Below.mono bc1 BD.size)
     have Hc1:=H0.keep Bc1
     have Pc1:=P0.keep Bc1
     have Ec10:=PE.keep Bc1
     have Zc1:=Pc1.cell 7 _ rfl
     have Fc1:=Pc1.fz 7 AF
     obtain ⟨c1s0,c1s1,c1s2,c1s3,c1s4,c1s5⟩:=Pc1.c6
     have c1ue2:=Ec10.cell 2 _ rfl
     have c1ue4:=Ec10.cell 4 _ rfl
     go_wp2_with fail
     refine sO hK fun hHeld => ?_
     clear hK K
     refine tK 13 ?_
     refine tK 14 ?_
     refine tK 15 ?_
     refine tK 16 ?_
     refine tK 17 ?_
     refine tK 18 ?_
     refine tK 19 ?_
     refine tK 20 ?_
     refine tK 21 ?_
     refine tK 22 ?_
     refine tH 23 fun K hK => ?_
     go_simp
     go_at_call 149
     refine (Dr g 3 _ Zc1).mono ?_
     rintro e w2 ⟨rfl,rfl⟩
     go_wp2_with fail
     refine sO hK fun hHeld => ?_
     clear hK K
     refine tK 24 ?_
     refine tK 25 ?_
     refine tK 26 ?_
     refine tK 27 ?_
     refine tK 28 ?_
     refine tK 29 ?_
     refine tK 30 ?_
     refine tK 31 ?_
     refine tK 32 ?_
     refine tK 33 ?_
     refine tK 34 ?_
     refine tH 35 fun K hK => ?_
     go_simp
     go_at_call 149
     refine (Dr g 4 _ Zc1).mono ?_
     rintro e w2 ⟨rfl,rfl⟩
     go_wp2_with fail
     refine sO hK fun hHeld => ?_
     clear hK K
     refine tK 36 ?_
     refine wpAnyH_done kR ?_ _
     refine NoPanic.normal ?_
     try go_wp2_with fail
     go_meet
     case rel=>exact ⟨by rw [HCD.out];rfl,by rw [HCD.out];exact ⟨Hc1,Wf.of_below Bc1⟩⟩
    have ew:decide (b.wallet<am)=true:=decide_eq_true hwl
    clear hwl
    have HCD:Hid (cd=4):=by unfold Hid;rw [HC.out];rw [HB1.out,HH.out,E21.out,ew];rfl
    refine wp_region_noPanic ?_
    refine wp_region_held_drew (S:=fun w'=>w'.cell? ⟨g,0,none⟩=.some b.tick∧w'.cell? ⟨g,1,none⟩=.some b.next∧w'.cell? ⟨g,2,none⟩=.some b.wallet∧w'.cell? ⟨g,3,none⟩=some (.slice ax n cx)∧w'.cell? ⟨g,4,none⟩=some (.slice ay m cy)∧w'.cell? ⟨g,5,none⟩=some (.slice az q cz)∧w'.cell? ⟨ue,2,none⟩=.some ch∧w'.cell? ⟨ue,4,none⟩=.some am) kR ?_ (fun hHeld => ?_)
    ·(try dsimp only)
     go_keep
    refine tK 0 ?_
    refine tK 1 ?_
    refine tK 2 ?_
    refine tH 3 fun K hK => ?_
    go_simp
    go_at_call 149
    refine (Dr g 2 _ D7).mono ?_
    rintro e w2 ⟨rfl,rfl⟩
    go_wp2_with fail
    refine sO hK fun hHeld => ?_
    clear hK K
    refine tK 4 ?_
    refine tK 5 ?_
    refine tK 6 ?_
    refine tK 7 ?_
    refine tK 8 ?_
    refine tK 9 ?_
    refine tK 10 ?_
    refine tK 11 ?_
    refine tH 12 fun K hK => ?_
    go_simp
    go_at_call 138
    refine (CA _ (V0.keep BD)).mono ?_
    rintro e wc1 ⟨rfl,bc1⟩
    have Bc1:Below w0 w0 wc1:=Below.trans BD (Below.mono bc1 BD.size)
    have Hc1:=H0.keep Bc1
    have Pc1:=P0.keep Bc1
    have Ec10:=PE.keep Bc1
    have Zc1:=Pc1.cell 7 _ rfl
    have Fc1:=Pc1.fz 7 AF
    obtain ⟨c1s0,c1s1,c1s2,c1s3,c1s4,c1s5⟩:=Pc1.c6
    have c1ue2:=Ec10.cell 2 _ rfl
    have c1ue4:=Ec10.cell 4 _ rfl
    go_wp2_with fail
    refine sO hK fun hHeld => ?_
    clear hK K
    refine tK 13 ?_
    refine tK 14 ?_
    refine tK 15 ?_
    refine tK 16 ?_
    refine tK 17 ?_
    refine tK 18 ?_
    refine tK 19 ?_
    refine tK 20 ?_
    refine tK 21 ?_
    refine tK 22 ?_
    refine tH 23 fun K hK => ?_
    go_simp
    go_at_call 149
    refine (Dr g 3 _ Zc1).mono ?_
    rintro e w2 ⟨rfl,rfl⟩
    go_wp2_with fail
    refine sO hK fun hHeld => ?_
    clear hK K
    refine tK 24 ?_
    refine tK 25 ?_
    refine tK 26 ?_
    refine tK 27 ?_
    refine tK 28 ?_
    refine tK 29 ?_
    refine tK 30 ?_
    refine tK 31 ?_
    refine tK 32 ?_
    refine tK 33 ?_
    refine tK 34 ?_
    refine tH 35 fun K hK => ?_
    go_simp
    go_at_call 149
    refine (Du g 4 _ Zc1 Fc1 dC).mono ?_
    rintro e w2 ⟨rfl,hw2⟩
    have FC:=Hc1.setCode 4
    have PS:=Pc1.set1 7 (.int .i64 4) AF
    have QS0:=Ec10.otherC g 7 (.int .i64 4) hneq
    rw [hw2] at FC PS QS0
    obtain ⟨zs0,zs1,zs2,zs3,zs4,zs5⟩:=PS.c6
    have zue2:=QS0.cell 2 _ rfl
    have zue4:=QS0.cell 4 _ rfl
    clear hw2
    go_wp2_with fail
    refine sO hK fun hHeld => ?_
    clear hK K
    refine tK 36 ?_
    refine wpAnyH_done kR ?_ _
    refine NoPanic.normal ?_
    try go_wp2_with fail
    go_meet
    case rel=>exact ⟨by rw [HCD.out];rfl,by rw [HCD.out];exact ⟨FC.1,(Wf.of_below Bc1).trans FC.2⟩⟩
 case rest =>
  obtain ⟨rfl,H5,W2⟩:=hcut
  obtain ⟨w2,hw2⟩:∃ x,x=wc:=⟨_,rfl⟩
  subst hw2
  have WX:=W0.trans W2
  obtain ⟨PE,nE⟩:=W2.box PE nE
  clear CA H0 V0 W0 W2 P0 ds0 ds1 ds2 ds3 ds4 ds5 due2 due4 BD HD PD D7 DF D_ue
  by_cases h0:cd=0;rotate_left
  ·have e7:(cd != 0)=true:=by simp [h0]
   have H0:=lH h0
   clear h0
   go_wp2
   (try simp only [Exit.inBlock,Exit.then])
   refine bodyPost_ret (results_none rfl _ _ _) rfl ?_
   exact ⟨rfl,F,_,b,[],H5,WX,fun e=>absurd e H0.out⟩
  have hcA:=HC.out.symm
  rw [h0] at hcA
  obtain ⟨r4,hcB⟩:=Bg hcA dC
  obtain ⟨r3,hcC⟩:=Bg hcB dC
  obtain ⟨r2,-⟩:=Bg hcC dC
  have r4:=of_decide_eq_false r4
  have hov:=of_decide_eq_false r2
  rw [Bool.or_eq_false_iff] at r3
  obtain ⟨hno,r3⟩:=r3
  have r3:=of_decide_eq_false r3
  have hno:=lH hno
  obtain rfl:okv=true:=by rw [HOK.out,r2];rfl
  obtain rfl:sv=am+fe:=HSV.out rfl
  clear hcA hcB hcC HC HSV HOK r2
  subst h0
  have e7:((0:Int) != 0)=false:=rfl
  obtain ⟨yv,zv,lv,PV,VV,-⟩:=H5.cells
  obtain ⟨ar,nr,cr,hxe,-,hnr,hncr,OR,VR,HR⟩:=H5.cn
  simp only [Value.slice.injEq] at hxe
  obtain ⟨rfl,rfl,rfl⟩:=hxe
  have OKS:=VR.oks
  obtain ⟨L,hL⟩:∃ l,l=A6 b.chans (⟨ch,am+fe,am,fe,0,0,0⟩:Cn):=⟨_,rfl⟩
  have hoks:∀ y∈L,y.ok:=fun y hy=>by
   rw [hL] at hy
   rcases YE _ hy with rfl | hy
   ·exact ⟨by unfold AE;dsimp only;omega,by unfold AE;dsimp only;omega,by unfold AE;dsimp only;omega,by unfold AE;dsimp only;omega,by unfold AE;dsimp only;omega,by unfold AE;dsimp only;omega,by unfold AE;dsimp only;omega⟩
   exact OKS y hy
  have HOKS:=lH hoks
  have HL:=lH hL
  clear hoks hL OKS OR hnr
  have O0:AC Cn.enc 7 182 (w2.alloc (.cells #[] 182)) w2 (.slice (some ⟨w2,0,none⟩) 0 0) []:=AC.made (enc:=Cn.enc) (sz:=7) (E:=182) w2 w2 (Nat.le_refl _)
  have b0:=bA w2 [] 182
  have hz0:=bZ w2 [] 182
  go_upto_region 4 with fail
  generalize w2.alloc (.cells #[] 182)=w3 at O0 b0 hz0 ⊢
  have PE3:=PE.keep b0
  have c2:=PE3.cell 2 _ rfl
  have c4:=PE3.cell 4 _ rfl
  have c5:=PE3.cell 5 _ rfl
  have Q1:=bN w3 [ch, .int .i64 (am+fe),am,fe,I0,I0,I0] 182
  have b1:=bA w3 [ch, .int .i64 (am+fe),am,fe,I0,I0,I0] 182
  obtain ⟨uo,huo⟩:∃ u,u=w2.heap.size+1:=⟨_,rfl⟩
  rw [hz0,← huo] at Q1
  go_upto_region 6 with fail
  rw [← huo]
  generalize w3.alloc (.cells #[ch, .int .i64 (am+fe),am,fe,I0,I0,I0] 182)=w4 at Q1 b1 ⊢
  have B1:=AD b1 b0
  have O1:AC Cn.enc 7 182 w4 w2 _ []:=AC.keep O0 b1
  have P4:=PV.keep B1
  have hgl:=PV.lt
  have hn20:n≤20:=by have:=HN.out;omega
  have huw:w2.heap.size+1=uo:=by omega
  clear O0 b0 b1 hz0 huo c2 c4 c5 PE3
  have p3:=P4.cell 3 _ rfl
  go_wp2
  go_loopw [6,7,10,71] (fun ks dn _ i wr=>∃ (k:Nat) (v:Value) (KK:List Cn) (d:Bool),k≤n∧i=k∧ks=v∧dn=d∧AC Cn.enc 7 182 wr w2 v KK∧Hid (uo∉v.ownBlock.toList)∧Hid (EQ (⟨ch,am+fe,am,fe,0,0,0⟩:Cn) d (b.chans.take k) KK)∧KK.length≤k+1∧Bx wr uo [ch, .int .i64 (am+fe),am,fe,I0,I0,I0]∧Below w2 w2 wr) (fun _ _ _ i _=>n - (intOf i).toNat)
  case atStart=>exact ⟨0,_,[],false,Nat.zero_le _,rfl,rfl,rfl,O1,by unfold Hid;simp [Value.ownBlock];omega,zU _,by simp,Q1,B1⟩
  case round =>
   obtain ⟨k,v,KK,d,hk,rfl,rfl,rfl,ho,hun,hKK,hKl,hQ,hB⟩:=hrel
   clear O1 Q1 P4 p3 B1
   have hul:=hQ.lt
   obtain ⟨ao,co,rfl,-⟩:=AC.of (ok:=fun _=>True) ho (fun _ _=>trivial)
   by_cases hlt:k<n;rotate_left
   ·have hKF:=hKK.out
    rw [List.take_of_length_le (by have:=HN.out;omega)] at hKF
    go_upto_if 94 with fail
    go_cut [6] (fun v wq=>∃ a c,v = .slice a L.length c∧AC Cn.enc 7 182 wq w2 (.slice a L.length c) L∧Below w2 w2 wq)
    case first =>
     cases d with
     | true =>
      have hKL:L=KK:=HL.out.trans (vM hKF).symm
      subst hKL
      clear hKF hKK
      go_wp2
      go_meet
      case rel=>exact ⟨_,_,rfl,ho,hB⟩
     | false =>
      have hKL:KK ++ [(⟨ch,am+fe,am,fe,0,0,0⟩:Cn)]=L:=(yJ hKF).trans HL.out.symm
      have HKL:=lH hKL
      clear hKF hKK hKL
      have z6:=hQ.cell
      have y0:=z6 0 _ rfl
      have y1:=z6 1 _ rfl
      have y2:=z6 2 _ rfl
      have y3:=z6 3 _ rfl
      have y4:=z6 4 _ rfl
      have y5:=z6 5 _ rfl
      have y6:=z6 6 _ rfl
      clear z6
      go_wp2_with (at_builtin;refine I1 D4 Tryz.underlying50 rfl dC dC (fun _=>rfl) ER rfl _ _ rfl w2 _ KK rfl (AC.alloc ho _) _ (⟨ch,am+fe,am,fe,0,0,0⟩:Cn) rfl (BC _ _ _ rfl) oM (Nat.le_trans hB.size (Aj _ _)) ?_)
      intro v8 w8 o8 g8 f8
      rw [HKL.out] at o8
      obtain ⟨a8,c8,rfl,-⟩:=AC.of (ok:=fun _=>True) o8 (fun _ _=>trivial)
      have b58:Ex (Value.slice ao KK.length co).ownBlock.toList wr w8:=(Ex.of_below (Ae (Below.refl wr wr) _) _).trans (Ex.of_grown g8)
      have FB:Below w2 w2 w8:=hB.trans (b58.below (fun k hk=>(Cj ho k hk).1) hB.size)
      go_wp2
      go_meet
      case rel=>exact ⟨_,_,rfl,o8,FB⟩
    case rest =>
     obtain ⟨a,c,rfl,hoL,hBL⟩:=hcut
     obtain ⟨w7,hw7⟩:∃ x,x=wc:=⟨_,rfl⟩
     subst hw7
     obtain ⟨F',FK,FW⟩:=HR w7 (.slice a L.length c) L (Ex.of_below hBL _) (AC.le hoL (by have:=H5.lt;omega)) (fun k hk=>Or.inr (Cj hoL k hk).1) HOKS.out
     have P7:=PV.keep hBL
     have p3:=P7.cell 3 _ rfl
     have z3:=P7.fz 3 AF
     clear hQ hun ho hB hul HR VR VV hKK hKl
     go_upto_region 17 with fail
     obtain ⟨PE',nE'⟩:=FW.box PE nE
     have WX':=WX.trans FW
     generalize w7.setCell ⟨g,3,none⟩ (.slice a L.length c)=w8 at FK FW PE' WX' ⊢
     clear P7 p3 z3 hoL hBL H5 PE nE WX PV FW
     have H5:=FK
     have PE:=PE'
     have nE:=nE'
     have WX:=WX'
     clear FK PE' nE' WX'
     have hwlt:=hb.wallet
     unfold Am at hwlt
     have c4:=PE.cell 4 _ rfl
     obtain ⟨yp,zp,lp,PP,-,-⟩:=H5.cells
     have p2:=PP.cell 2 _ rfl
     have zr:=PP.fz 2 AF
     have hwr2:IntKind.i64.wrap (b.wallet - am)=b.wallet - am:=by rw [IntKind.wrap_i64];omega
     have FIN:=H5.wallet (b.wallet - am) uI
     have FW:=FIN.2.trans (Wf.of_below (Below.drew (Below.refl _ _)))
     have FK:=FIN.1.keep (Below.drew (Below.refl _ _))
     obtain ⟨PE',nE'⟩:=FW.box PE nE
     have WX':=WX.trans FW
     clear FIN FW H5 PE nE WX
     go_cut [] (fun wq=>wq=World.drew (World.setCell w8 ⟨g,2,none⟩ (Value.int IntKind.i64 (b.wallet - am))))
     case first =>
      go_region_with (fail)
      all_goals
       go_wp2_with fail
       go_meet
       case rel=>rfl
     case' rest =>
      obtain ⟨wb2,hwn⟩:∃ x,x=wc:=⟨_,rfl⟩
      subst hwn
      rw [← hcut] at FK PE' WX'
      clear hcut
     have H5:=FK
     have PE:=PE'
     have nE:=nE'
     have WX:=WX'
     clear FK PE' nE' WX' p2 zr c4 PP
     have LI:=LsIn.nil
     have c4:=PE.cell 4 _ rfl
     have hwr1:IntKind.i64.wrap (-am) = -am:=by rw [IntKind.wrap_i64];omega
     obtain ⟨hg,LI⟩:=LsIn.add LI (x:=⟨1,0,-am⟩) sM Cq uL sM
     go_wp2_with fail
     refine (DK _ _ g B _ _ 0 1 0 (-am) _ H5 hg).mono ?_
     rintro e w9 ⟨rfl,F9,H9,W9⟩
     obtain ⟨PE,nE⟩:=W9.box PE nE
     have H5:=H9
     have WX:=WX.trans W9
     clear H9 W9 hg c4
     have c2:=PE.cell 2 _ rfl
     have c4:=PE.cell 4 _ rfl
     obtain ⟨hg,LI⟩:=LsIn.add LI (x:=⟨6,ch,am⟩) sM Cq uL sM
     go_wp2_with fail
     refine (DK _ _ g B _ _ 0 6 ch (am) _ H5 hg).mono ?_
     rintro e w9 ⟨rfl,F9,H9,W9⟩
     obtain ⟨PE,nE⟩:=W9.box PE nE
     have H5:=H9
     have WX:=WX.trans W9
     clear H9 W9 hg c2 c4
     go_wp2
     go_end0
     rw [Gb,Gy] at H5
     ·refine ⟨rfl,_,_,_,_,H5,WX,?_⟩
      try intro _
      have hdo:Al b ⟨2,ky,ch,tt,am,fe,ys⟩=({b with chans:=A6 b.chans ⟨ch,am+fe,am,fe,0,0,0⟩,wallet:=b.wallet - am},BL [⟨1,0,-am⟩,⟨6,ch,am⟩]):=rfl
      rw [hdo,HL.out]
      exact ⟨rfl,rfl⟩
     all_goals simp
   obtain ⟨g1,off,⟨x0,x1,x2,x3,x4,x5,x6⟩,rfl,hg1,-,⟨c0,c1,c2,c3,c4,c5,c6⟩,hx,ht⟩:=Bz.at_ (VV.keep hB).chans hlt
   have hnx:=lH (fun hm=>by have:=(Cj ho wr hm).2;omega:wr.heap.size∉(Value.slice ao KK.length co).ownBlock.toList)
   go_upto_region 9 with fail
   refine cW fun w5 P5 b5 => ?_
   obtain ⟨ux,hux⟩:∃ u,u=wr.heap.size:=⟨_,rfl⟩
   rw [← hux] at P5 hnx ⊢
   clear hux
   have hB5:=AD b5 hB
   have ho5:AC Cn.enc 7 182 w5 w2 (.slice ao KK.length co) KK:=AC.keep ho b5
   have hQ5:=hQ.keep b5
   have e2:=(PE.keep hB5).cell 2 _ rfl
   have d0:=P5.cell 0 _ rfl
   have hB6:=hB5
   have ho6:=ho5
   have hQ6:=hQ5
   have P6:=P5
   clear c0 c1 c2 c3 c4 c5 c6 ho hQ hB hg1 b5
   cases d with
   | true =>
    obtain ⟨K2,hE2⟩:∃ l,l=KK ++ [(⟨x0,x1,x2,x3,x4,x5,x6⟩:Cn)]:=⟨_,rfl⟩
    have hKK2:Hid (EQ (⟨ch,am+fe,am,fe,0,0,0⟩:Cn) true (b.chans.take (k+1)) K2):=by unfold Hid;rw [ht.out,hE2];exact vP hKK.out
    have HE2:=lH hE2
    have hl2:K2.length≤k+1+1:=by rw [hE2,List.length_append];simp;omega
    clear hx ht hE2
    go_upto_region 12 with fail
    obtain ⟨w6,hw6⟩:∃ x,x=w5:=⟨_,rfl⟩
    rw [← hw6] at hB6 ho6 hQ6 P6 ⊢
    clear hB5 ho5 hQ5 P5 e2 d0 hw6
    have z6:=P6.cell
    have y0:=z6 0 _ rfl
    have y1:=z6 1 _ rfl
    have y2:=z6 2 _ rfl
    have y3:=z6 3 _ rfl
    have y4:=z6 4 _ rfl
    have y5:=z6 5 _ rfl
    have y6:=z6 6 _ rfl
    clear z6
    go_wp2_with (at_builtin;refine I1 D4 Tryz.underlying50 rfl dC dC (fun _=>rfl) ER rfl _ _ rfl w2 _ KK rfl (AC.alloc ho6 _) _ (⟨x0,x1,x2,x3,x4,x5,x6⟩:Cn) rfl (BC _ _ _ rfl) oM (Nat.le_trans hB6.size (Aj _ _)) ?_)
    intro v8 w8 o8 g8 f8
    rw [← HE2.out] at o8
    obtain ⟨a8,c8,rfl,-⟩:=AC.of (ok:=fun _=>True) o8 (fun _ _=>trivial)
    have b68:Ex (Value.slice ao KK.length co).ownBlock.toList w6 w8:=(Ex.of_below (Ae (Below.refl w6 w6) _) _).trans (Ex.of_grown g8)
    have hs68:=b68.size
    have hQ8:=hQ6.ex b68 hun.out
    have hun8:Hid (uo∉(Value.slice a8 K2.length c8).ownBlock.toList):=fun hm=>by
     have h6:=hQ6.lt
     rcases f8 uo (by simpa using hm) with h | h
     ·exact hun.out (by simpa using h)
     first | omega | (simp at h;omega)
    have FB:Below w2 w2 w8:=hB6.trans (b68.below (fun k hk=>(Cj ho6 k hk).1) hB6.size)
    clear f8 g8 b68 hQ6 ho6 P6 HE2 y0 y1 y2 y3 y4 y5 y6
    go_wp2
    go_roundw
    case rel=>exact ⟨k+1,_,K2,true,by omega,by go_num,rfl,rfl,o8,hun8,hKK2,by omega,hQ8,FB⟩
    case measure=>simp only [intOf];omega
   | false =>
    by_cases hlx:ch<x0;rotate_left
    ·have e1:decide (ch<x0)=false:=decide_eq_false hlx
     obtain ⟨K2,hE2⟩:∃ l,l=KK ++ [(⟨x0,x1,x2,x3,x4,x5,x6⟩:Cn)]:=⟨_,rfl⟩
     have hKK2:Hid (EQ (⟨ch,am+fe,am,fe,0,0,0⟩:Cn) false (b.chans.take (k+1)) K2):=by unfold Hid;rw [ht.out,hE2];exact xq (c:=(⟨ch,am+fe,am,fe,0,0,0⟩:Cn)) (x:=(⟨x0,x1,x2,x3,x4,x5,x6⟩:Cn)) hKK.out hlx
     have HE2:=lH hE2
     have hl2:K2.length≤k+1+1:=by rw [hE2,List.length_append];simp;omega
     clear hx ht hE2 hlx
     go_upto_region 12 with fail
     obtain ⟨w6,hw6⟩:∃ x,x=w5:=⟨_,rfl⟩
     rw [← hw6] at hB6 ho6 hQ6 P6 ⊢
     clear hB5 ho5 hQ5 P5 e2 d0 hw6
     have z6:=P6.cell
     have y0:=z6 0 _ rfl
     have y1:=z6 1 _ rfl
     have y2:=z6 2 _ rfl
     have y3:=z6 3 _ rfl
     have y4:=z6 4 _ rfl
     have y5:=z6 5 _ rfl
     have y6:=z6 6 _ rfl
     clear z6
     go_wp2_with (at_builtin;refine I1 D4 Tryz.underlying50 rfl dC dC (fun _=>rfl) ER rfl _ _ rfl w2 _ KK rfl (AC.alloc ho6 _) _ (⟨x0,x1,x2,x3,x4,x5,x6⟩:Cn) rfl (BC _ _ _ rfl) oM (Nat.le_trans hB6.size (Aj _ _)) ?_)
     intro v8 w8 o8 g8 f8
     rw [← HE2.out] at o8
     obtain ⟨a8,c8,rfl,-⟩:=AC.of (ok:=fun _=>True) o8 (fun _ _=>trivial)
     have b68:Ex (Value.slice ao KK.length co).ownBlock.toList w6 w8:=(Ex.of_below (Ae (Below.refl w6 w6) _) _).trans (Ex.of_grown g8)
     have hs68:=b68.size
     have hQ8:=hQ6.ex b68 hun.out
     have hun8:Hid (uo∉(Value.slice a8 K2.length c8).ownBlock.toList):=fun hm=>by
      have h6:=hQ6.lt
      rcases f8 uo (by simpa using hm) with h | h
      ·exact hun.out (by simpa using h)
      first | omega | (simp at h;omega)
     have FB:Below w2 w2 w8:=hB6.trans (b68.below (fun k hk=>(Cj ho6 k hk).1) hB6.size)
     clear f8 g8 b68 hQ6 ho6 P6 HE2 y0 y1 y2 y3 y4 y5 y6
     go_wp2
     go_roundw
     case rel=>exact ⟨k+1,_,K2,false,by omega,by go_num,rfl,rfl,o8,hun8,hKK2,by omega,hQ8,FB⟩
     case measure=>simp only [intOf];omega
    have e1:decide (ch<x0)=true:=decide_eq_true hlx
    obtain ⟨K1,hE1⟩:∃ l,l=KK ++ [(⟨ch,am+fe,am,fe,0,0,0⟩:Cn)]:=⟨_,rfl⟩
    obtain ⟨K2,hE2⟩:∃ l,l=K1 ++ [(⟨x0,x1,x2,x3,x4,x5,x6⟩:Cn)]:=⟨_,rfl⟩
    have hKK2:Hid (EQ (⟨ch,am+fe,am,fe,0,0,0⟩:Cn) true (b.chans.take (k+1)) K2):=by unfold Hid;rw [ht.out,hE2,hE1];exact zM (c:=(⟨ch,am+fe,am,fe,0,0,0⟩:Cn)) (x:=(⟨x0,x1,x2,x3,x4,x5,x6⟩:Cn)) hKK.out hlx
    have HE1:=lH hE1
    have HE2:=lH hE2
    have hl1:K1.length≤k+2:=by rw [hE1,List.length_append];simp;omega
    have hk0:KK.length≤k:=by
     rcases hKK.out with ⟨-,-,h⟩ | ⟨h,-⟩
     ·rw [h,List.length_take];omega
     cases h
    have hl2:K2.length≤k+1+1:=by rw [hE2,List.length_append,hE1,List.length_append];simp;omega
    clear hx ht hE1 hE2 hlx
    go_upto_region 10 with fail
    obtain ⟨w6,hw6⟩:∃ x,x=w5:=⟨_,rfl⟩
    rw [← hw6] at hB6 ho6 hQ6 P6 ⊢
    clear hB5 ho5 hQ5 P5 e2 d0 hw6
    have z6:=hQ6.cell
    have y0:=z6 0 _ rfl
    have y1:=z6 1 _ rfl
    have y2:=z6 2 _ rfl
    have y3:=z6 3 _ rfl
    have y4:=z6 4 _ rfl
    have y5:=z6 5 _ rfl
    have y6:=z6 6 _ rfl
    clear z6
    go_wp2_with (at_builtin;refine I1 D4 Tryz.underlying50 rfl dC dC (fun _=>rfl) ER rfl _ _ rfl w2 _ KK rfl (AC.alloc ho6 _) _ (⟨ch,am+fe,am,fe,0,0,0⟩:Cn) rfl (BC _ _ _ rfl) oM (Nat.le_trans hB6.size (Aj _ _)) ?_)
    intro v7 w7 o7 g7 f7
    rw [← HE1.out] at o7
    obtain ⟨a7,c7,rfl,-⟩:=AC.of (ok:=fun _=>True) o7 (fun _ _=>trivial)
    have b67:Ex (Value.slice ao KK.length co).ownBlock.toList w6 w7:=(Ex.of_below (Ae (Below.refl w6 w6) _) _).trans (Ex.of_grown g7)
    have hs67:=b67.size
    have hun7:Hid (uo∉(Value.slice a7 K1.length c7).ownBlock.toList):=fun hm=>by
     have h6:=hQ6.lt
     rcases f7 uo (by simpa using hm) with h | h
     ·exact hun.out (by simpa using h)
     first | omega | (simp at h;omega)
    have hnx7:Hid (ux∉(Value.slice a7 K1.length c7).ownBlock.toList):=fun hm=>by
     have h6:=P6.lt
     rcases f7 ux (by simpa using hm) with h | h
     ·exact hnx.out (by simpa using h)
     first | omega | (simp at h;omega)
    have hQ7:=hQ6.ex b67 hun.out
    have P7:=P6.ex b67 hnx.out
    have hB7:Below w2 w2 w7:=hB6.trans (b67.below (fun k hk=>(Cj ho6 k hk).1) hB6.size)
    clear f7 g7 b67 hQ6 P6 ho6 hB6 hun hnx HE1 y0 y1 y2 y3 y4 y5 y6
    go_upto_region 12 with fail
    obtain ⟨w6,hw6⟩:∃ x,x=w7:=⟨_,rfl⟩
    rw [← hw6] at o7 hQ7 P7 hB7 ⊢
    have hun:=hun7
    have hQ6:=hQ7
    have P6:=P7
    have hB6:=hB7
    have ho6:=o7
    clear hun7 hQ7 P7 hB7 o7 hw6 hnx7
    have z6:=P6.cell
    have y0:=z6 0 _ rfl
    have y1:=z6 1 _ rfl
    have y2:=z6 2 _ rfl
    have y3:=z6 3 _ rfl
    have y4:=z6 4 _ rfl
    have y5:=z6 5 _ rfl
    have y6:=z6 6 _ rfl
    clear z6
    go_wp2_with (at_builtin;refine I1 D4 Tryz.underlying50 rfl dC dC (fun _=>rfl) ER rfl _ _ rfl w2 _ K1 rfl (AC.alloc ho6 _) _ (⟨x0,x1,x2,x3,x4,x5,x6⟩:Cn) rfl (BC _ _ _ rfl) oM (Nat.le_trans hB6.size (Aj _ _)) ?_)
    intro v8 w8 o8 g8 f8
    rw [← HE2.out] at o8
    obtain ⟨a8,c8,rfl,-⟩:=AC.of (ok:=fun _=>True) o8 (fun _ _=>trivial)
    have b68:Ex (Value.slice a7 K1.length c7).ownBlock.toList w6 w8:=(Ex.of_below (Ae (Below.refl w6 w6) _) _).trans (Ex.of_grown g8)
    have hs68:=b68.size
    have hQ8:=hQ6.ex b68 hun.out
    have hun8:Hid (uo∉(Value.slice a8 K2.length c8).ownBlock.toList):=fun hm=>by
     have h6:=hQ6.lt
     rcases f8 uo (by simpa using hm) with h | h
     ·exact hun.out (by simpa using h)
     first | omega | (simp at h;omega)
    have FB:Below w2 w2 w8:=hB6.trans (b68.below (fun k hk=>(Cj ho6 k hk).1) hB6.size)
    clear f8 g8 b68 hQ6 ho6 P6 HE2 y0 y1 y2 y3 y4 y5 y6
    go_wp2
    go_roundw
    case rel=>exact ⟨k+1,_,K2,true,by omega,by go_num,rfl,rfl,o8,hun8,hKK2,by omega,hQ8,FB⟩
    case measure=>simp only [intOf];omega
end Go.Proofs.YtahefgkdbecemaaGreat
