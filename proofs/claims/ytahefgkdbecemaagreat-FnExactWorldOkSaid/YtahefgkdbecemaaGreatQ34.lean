/- A payment settled (spec). -/
import Derived.Test.YtahefgkdbecemaaGreatQ7
import Derived.Test.YtahefgkdbecemaaGreatQ23
import Derived.Test.YtahefgkdbecemaaGreatQ22
import Derived.Test.YtahefgkdbecemaaGreatQ8
import Derived.BigRegion
namespace Go.Proofs.YtahefgkdbecemaaGreat
open Go.RowKit
set_option linter.unusedVariables false
set_option linter.unusedSimpArgs false
set_option maxRecDepth 100000
set_option maxHeartbeats 12800000
theorem Us (F:List Nat) (x:Value) (g B:Nat) (b:Bk) (ky:Int) (gd:Bool) (w:World) (H:Wk F x w g B b [] 0) (hb:Bok b) (hky:1≤ky) (hh:Aw b ky=false):Calls Tryz.prog 155 #[.pointer (some ⟨g,0,none⟩),ky,gd] w fun e w'=>e = .returned (.tuple #[])∧Wk F x w' g B b [] 15∧Wf g F F w w':=by
 obtain ⟨y,z,l,P,V,-⟩:=H.cells
 obtain ⟨ax,n,cx,rfl,-,-⟩:=VS.form V.chans
 obtain ⟨ay,m,cy,rfl,hm,-⟩:=VS.form V.htlcs
 obtain ⟨az,q,cz,rfl,hq,-⟩:=VS.form V.circles
 have hLB:=VS.lenB V.htlcs
 have HM:=lH hm
 have hnd:=lH hb.pk.ndH
 have hsm:b.htlcs.length≤60:=hb.pk.h60
 rw [HM.out] at hsm
 clear hm hq
 have O0:AC Ht.enc 7 184 (w.alloc (.cells #[] 184)) w (.slice (some ⟨w,0,none⟩) 0 0) []:=AC.made (enc:=Ht.enc) (sz:=7) (E:=184) w w (Nat.le_refl _)
 have b0:=bA w [] 184
 have hz0:=bZ w [] 184
 go_enter Tryz.func155,Tryz.ntmps155
 go_upto_region 1 with fail
 generalize w.alloc (.cells #[] 184)=w0 at O0 b0 hz0 ⊢
 have Q1:=bN w0 [I0,I0,I0,I0,I0,false,I0] 184
 have b1:=bA w0 [I0,I0,I0,I0,I0,false,I0] 184
 obtain ⟨uh,huh⟩:∃ u,u=w.heap.size+1:=⟨_,rfl⟩
 rw [hz0,← huh] at Q1
 go_upto_region 2 with fail
 rw [← huh]
 generalize w0.alloc (.cells #[I0,I0,I0,I0,I0,false,I0] 184)=w1 at Q1 b1 ⊢
 have B1:=AD b1 b0
 have O1:AC Ht.enc 7 184 w1 w _ []:=AC.keep O0 b1
 have P1:=P.keep B1
 have hgl:=P.lt
 have huw:w.heap.size+1=uh:=by omega
 clear O0 b0 b1 hz0 huh
 have p4:=P1.cell 4 _ rfl
 go_wp2
 go_loopw [6,9,19] (fun ks _ i wr=>∃ (k:Nat) (v:Value) (KK:List Ht) (hv:Ht),k≤m∧i=k∧ks=v∧AC Ht.enc 7 184 wr w v KK∧Hid (uh∉v.ownBlock.toList)∧Hid (KK=(b.htlcs.take k).filter (fun h => !decide (h.key=ky)))∧KK.length≤k∧Hid (hv=D2 (fun h=>decide (h.key=ky)) Ht.zero b.htlcs k)∧Bx wr uh hv.enc∧Below w w wr) (fun _ _ i _=>m - (intOf i).toNat)
 case atStart=>exact ⟨0,_,[],Ht.zero,Nat.zero_le _,rfl,rfl,O1,by unfold Hid;simp [Value.ownBlock];omega,rfl,Nat.le_refl _,XM.symm,Q1,B1⟩
 case round =>
  obtain ⟨k,v,KK,hv,hk,rfl,rfl,ho,hun,hKK,hKl,hsel,hQ,hB⟩:=hrel
  clear O1 Q1 P1 p4 B1
  have hul:=hQ.lt
  by_cases hlt:k<m;rotate_left
  ·have hKF:Hid (KK=b.htlcs.filter (fun h => !decide (h.key=ky))):=by have:=hKK.out;unfold Hid;rwa [List.take_of_length_le (by have:=HM.out;omega)] at this
   have hse:=hsel.out
   rw [YS (by have:=HM.out;omega)] at hse
   clear hKK hsel
   have hnone:b.htlcs.find? (fun h=>decide (h.key=ky))=none:=by
    rw [List.find?_eq_none]
    intro h hm e
    have hany:Aw b ky=true:=List.any_eq_true.2 ⟨h,hm,e⟩
    rw [hh] at hany
    cases hany
   rw [hnone] at hse
   subst hse
   have x0:wr.cell? ⟨uh,0,none⟩=.some I0:=hQ.cell 0 _ rfl
   have HX:=H.keep hB
   go_wp2_with fail
   refine (I4 F _ g B b [] 0 15 true wr HX dC).mono ?_
   rintro e w2 ⟨rfl,H2,W2⟩
   have hfc:AG true 15 0=15:=rfl
   rw [hfc] at H2
   have WX:=(Wf.of_below (g:=g) (F:=F) hB).trans W2
   clear hQ HX W2 ho hun hKF x0
   go_wp2
   (try simp only [Exit.inBlock,Exit.then])
   refine bodyPost_ret (results_none rfl _ _ _) rfl ?_
   exact ⟨rfl,H2,WX⟩
  obtain ⟨ao,co,rfl,-⟩:=AC.of (ok:=fun _=>True) ho (fun _ _=>trivial)
  obtain ⟨g1,off,⟨x0,x1,x2,x3,x4,x5,x6⟩,rfl,hg1,-,⟨c0,c1,c2,c3,c4,c5,c6⟩,hx,ht⟩:=DC.at_ (V.keep hB).htlcs hlt
  go_upto_region 5 with fail
  refine cW fun w5 P5 b5 => ?_
  obtain ⟨ux,hux⟩:∃ u,u=wr.heap.size:=⟨_,rfl⟩
  rw [← hux] at P5 ⊢
  clear hux
  have hQ5:=hQ.keep b5
  have ho5:AC Ht.enc 7 184 w5 w (.slice ao KK.length co) KK:=AC.keep ho b5
  have hB5:=AD b5 hB
  have hl5:=P5.lt
  have hul5:=hQ5.lt
  clear c0 c1 c2 c3 c4 c5 c6 ho hQ hB hg1 b5
  have hnb:=XB (f:=fun h=>h.key) hnd.out hx.out
  dsimp only at hnb
  obtain ⟨d0,d1,d2,d3,d4,d5,d6⟩:=P5.c7
  by_cases hkx:x0=ky;rotate_left
  ·have e1:(x0 == ky)=false:=by simp [hkx]
   obtain ⟨K2,hE2⟩:∃ l,l=KK ++ [(⟨x0,x1,x2,x3,x4,x5,x6⟩:Ht)]:=⟨_,rfl⟩
   have hKK2:Hid (K2=(b.htlcs.take (k+1)).filter (fun h => !decide (h.key=ky))):=by unfold Hid;rw [zn ht.out (by simp [hkx]),hE2,← hKK.out]
   have hsl:Hid (hv=D2 (fun h=>decide (h.key=ky)) Ht.zero b.htlcs (k+1)):=by unfold Hid;rw [tx ht.out (by simp [hkx])];exact hsel.out
   have HE2:=lH hE2
   have hl2:K2.length=KK.length+1:=by rw [hE2,List.length_append];rfl
   clear hx ht hnb hkx hE2
   go_wp2_with (at_builtin;refine I1 Hz Tryz.underlying51 rfl dC dC (fun _=>rfl) JI rfl _ _ rfl w _ KK rfl (AC.alloc ho5 _) _ (⟨x0,x1,x2,x3,x4,x5,x6⟩:Ht) rfl (BC _ _ _ rfl) oM (Nat.le_trans hB5.size (Aj _ _)) ?_)
   intro v8 w8 o8 g8 f8
   rw [← HE2.out] at o8
   obtain ⟨a8,c8,rfl,-⟩:=AC.of (ok:=fun _=>True) o8 (fun _ _=>trivial)
   have b58:Ex (Value.slice ao KK.length co).ownBlock.toList w5 w8:=(Ex.of_below (Ae (Below.refl w5 w5) _) _).trans (Ex.of_grown g8)
   have hQ8:=hQ5.ex b58 hun.out
   have hun8:Hid (uh∉(Value.slice a8 K2.length c8).ownBlock.toList):=fun hm=>by
    rcases f8 uh (by simpa using hm) with h | h
    ·exact hun.out (by simpa using h)
    first | omega | (simp at h;omega)
   have FB:Below w w w8:=hB5.trans (b58.below (fun k hk=>(Cj ho5 k hk).1) hB5.size)
   clear f8 g8 b58 hQ5 ho5 P5 HE2
   go_wp2
   go_roundw
   case rel=>exact ⟨k+1,_,K2,hv,by omega,by go_num,rfl,o8,hun8,hKK2,by omega,hsl,hQ8,FB⟩
   case measure=>simp only [intOf];omega
  have e1:(x0 == ky)=true:=by simp [hkx]
  have hKK2:Hid (KK=(b.htlcs.take (k+1)).filter (fun h => !decide (h.key=ky))):=by unfold Hid;rw [za ht.out (by simp [hkx])];exact hKK.out
  have hsl:Hid ((⟨x0,x1,x2,x3,x4,x5,x6⟩:Ht)=D2 (fun h=>decide (h.key=ky)) Ht.zero b.htlcs (k+1)):=Eq.symm <| VJ ht.out (by simp [hkx]) (fun y hy=>by have:=hnb y hy;simp;rw [← hkx];exact this)
  have FQ:Bx (w5.setCells uh 0 [x0,x1,x2,x3,x4,x5,x6]) uh [x0,x1,x2,x3,x4,x5,x6]:=Bx.whole hQ5 rfl
  have FX:Ex [uh] w5 (w5.setCells uh 0 [x0,x1,x2,x3,x4,x5,x6]):=by simp only [World.setCells];exact LB
  have FO:AC Ht.enc 7 184 (w5.setCells uh 0 [x0,x1,x2,x3,x4,x5,x6]) w (.slice ao KK.length co) KK:=AC.kept ho5 FX (fun k hk hm=>hun.out (by simp at hm;subst hm;exact hk))
  have FB:Below w w (w5.setCells uh 0 [x0,x1,x2,x3,x4,x5,x6]):=hB5.trans (FX.below (fun k hk=>by simp at hk;omega) (by have:=hB5.size;omega))
  have z0:=hQ5.fz 0 AF
  have s0:=hQ5.cell 0 _ rfl
  have z1:=hQ5.fz 1 AF
  have s1:=hQ5.cell 1 _ rfl
  have z2:=hQ5.fz 2 AF
  have s2:=hQ5.cell 2 _ rfl
  have z3:=hQ5.fz 3 AF
  have s3:=hQ5.cell 3 _ rfl
  have z4:=hQ5.fz 4 AF
  have s4:=hQ5.cell 4 _ rfl
  have z5:=hQ5.fz 5 AF
  have s5:=hQ5.cell 5 _ rfl
  have z6:=hQ5.fz 6 AF
  have s6:=hQ5.cell 6 _ rfl
  simp only [World.setCells,Nat.zero_add,Nat.reduceAdd] at FQ FO FB
  clear hx ht hnb hkx FX hQ5 ho5 P5
  go_wp2
  go_roundw
  case rel=>exact ⟨k+1,_,KK,_,by omega,by go_num,rfl,FO,hun,hKK2,by omega,hsl,FQ,FB⟩
  case measure=>simp only [intOf];omega
theorem yl (F:List Nat) (x:Value) (g B:Nat) (b:Bk) (ky:Int) (w:World) (H:Wk F x w g B b [] 0) (hb:Bok b) (hky:1≤ky) (hh:Aw b ky=true):Calls Tryz.prog 155 #[.pointer (some ⟨g,0,none⟩),ky,true] w fun e w'=>e = .returned (.tuple #[])∧∃ F',Wk F' x w' g B {b with htlcs:=b.htlcs.filter (fun h => !decide (h.key=ky)),chans:=AU (AU (AU b.chans (Ac b ky).inn (AO (Ac b ky).ain 0)) (Ac b ky).out (AO 0 (Ac b ky).aout)) (Ac b ky).inn (fun c=>{c with score:=Co c.score})} (BL [⟨3,0,(Ac b ky).aout - (Ac b ky).ain⟩,⟨6,(Ac b ky).inn,(Ac b ky).ain⟩,⟨8,(Ac b ky).out,-(Ac b ky).aout⟩]) 0∧Wf g F F' w w':=by
 obtain ⟨i,h,h1,h2,h3,h4,h5⟩:=XR hh
 rw [h4]
 have HK:=hb.pk.hs h (List.mem_of_getElem? h2)
 obtain ⟨hne,hx1,hx2⟩:=HK.ap
 have hi1:=(DO b.chans _).2 hx1
 have hi2:=(DO b.chans _).2 hx2
 obtain ⟨L,hL⟩:∃ L,L=b.htlcs.filter (fun h => !decide (h.key=ky)):=⟨_,rfl⟩
 rw [← hL]
 have HLF:=lH hL
 clear hL hx1 hx2 hh
 have hso:=hb.so
 have hcks:=hb.ck
 have a1:=HK.ain
 have a2:=HK.o1
 have a3:=HK.o2
 clear HK
 obtain ⟨q0,q1,q2,q3,q4,q5,q6⟩:=h
 dsimp only at h3 hne hi1 hi2 a1 a2 a3 ⊢
 unfold Am at a1
 have H4:=lH h4
 clear h2 h1 h4 h5
 have e0:(q0 == 0)=false:=by rw [beq_eq_false_iff_ne];omega
 clear h3
 obtain ⟨ia,a,ha1,ai,aid,aget,ialt⟩:=EH hi1
 obtain ⟨jd,d,-,di,did,dget,-⟩:=EH hi2
 have ack:=hcks a (List.mem_of_getElem? ai)
 have dck:=hcks d (List.mem_of_getElem? di)
 have alo:=ack.loc
 have are:=ack.rem
 have dlo:=dck.loc
 have dre:=dck.rem
 unfold Am at alo are dlo dre
 have hq1:1≤q1∧q1≤99:=by rw [← aid];exact ack.id
 have hq2:1≤q2∧q2≤99:=by rw [← did];exact dck.id
 obtain ⟨xx,nx,cxx,hxe,hnx,hcx,hrx⟩:=H.row
 obtain ⟨gx,rfl,-⟩:=hrx oM
 have HNX:=lH hnx
 have hianx:ia<nx:=by omega
 have HA1:=lH ha1
 clear hnx hrx ha1 ialt
 subst hxe
 obtain ⟨y,z,l,P,V,-⟩:=H.cells
 obtain ⟨ay,m,cy,rfl,hm,-⟩:=VS.form V.htlcs
 obtain ⟨az,q,cz,rfl,hq,-⟩:=VS.form V.circles
 have hLB:=VS.lenB V.htlcs
 have HM:=lH hm
 have hnd:=lH hb.pk.ndH
 have hsm:b.htlcs.length≤60:=hb.pk.h60
 rw [HM.out] at hsm
 clear hm hq
 have O0:AC Ht.enc 7 184 (w.alloc (.cells #[] 184)) w (.slice (some ⟨w,0,none⟩) 0 0) []:=AC.made (enc:=Ht.enc) (sz:=7) (E:=184) w w (Nat.le_refl _)
 have b0:=bA w [] 184
 have hz0:=bZ w [] 184
 go_enter Tryz.func155,Tryz.ntmps155
 go_upto_region 1 with fail
 generalize w.alloc (.cells #[] 184)=w0 at O0 b0 hz0 ⊢
 have Q1:=bN w0 [I0,I0,I0,I0,I0,false,I0] 184
 have b1:=bA w0 [I0,I0,I0,I0,I0,false,I0] 184
 obtain ⟨uh,huh⟩:∃ u,u=w.heap.size+1:=⟨_,rfl⟩
 rw [hz0,← huh] at Q1
 go_upto_region 2 with fail
 rw [← huh]
 generalize w0.alloc (.cells #[I0,I0,I0,I0,I0,false,I0] 184)=w1 at Q1 b1 ⊢
 have B1:=AD b1 b0
 have O1:AC Ht.enc 7 184 w1 w _ []:=AC.keep O0 b1
 have P1:=P.keep B1
 have hgl:=P.lt
 have huw:w.heap.size+1=uh:=by omega
 clear O0 b0 b1 hz0 huh
 have p4:=P1.cell 4 _ rfl
 go_wp2
 go_loopw [6,9,19] (fun ks _ i wr=>∃ (k:Nat) (v:Value) (KK:List Ht) (hv:Ht),k≤m∧i=k∧ks=v∧AC Ht.enc 7 184 wr w v KK∧Hid (uh∉v.ownBlock.toList)∧Hid (KK=(b.htlcs.take k).filter (fun h => !decide (h.key=ky)))∧KK.length≤k∧Hid (hv=D2 (fun h=>decide (h.key=ky)) Ht.zero b.htlcs k)∧Bx wr uh hv.enc∧Below w w wr) (fun _ _ i _=>m - (intOf i).toNat)
 case atStart=>exact ⟨0,_,[],Ht.zero,Nat.zero_le _,rfl,rfl,O1,by unfold Hid;simp [Value.ownBlock];omega,rfl,Nat.le_refl _,XM.symm,Q1,B1⟩
 case round =>
  obtain ⟨k,v,KK,hv,hk,rfl,rfl,ho,hun,hKK,hKl,hsel,hQ,hB⟩:=hrel
  clear O1 Q1 P1 p4 B1
  have hul:=hQ.lt
  by_cases hlt:k<m
  ·obtain ⟨ao,co,rfl,-⟩:=AC.of (ok:=fun _=>True) ho (fun _ _=>trivial)
   obtain ⟨g1,off,⟨x0,x1,x2,x3,x4,x5,x6⟩,rfl,hg1,-,⟨c0,c1,c2,c3,c4,c5,c6⟩,hx,ht⟩:=DC.at_ (V.keep hB).htlcs hlt
   go_upto_region 5 with fail
   refine cW fun w5 P5 b5 => ?_
   obtain ⟨ux,hux⟩:∃ u,u=wr.heap.size:=⟨_,rfl⟩
   rw [← hux] at P5 ⊢
   clear hux
   have hQ5:=hQ.keep b5
   have ho5:AC Ht.enc 7 184 w5 w (.slice ao KK.length co) KK:=AC.keep ho b5
   have hB5:=AD b5 hB
   have hl5:=P5.lt
   have hul5:=hQ5.lt
   clear c0 c1 c2 c3 c4 c5 c6 ho hQ hB hg1 b5
   have hnb:=XB (f:=fun h=>h.key) hnd.out hx.out
   dsimp only at hnb
   obtain ⟨d0,d1,d2,d3,d4,d5,d6⟩:=P5.c7
   by_cases hkx:x0=ky;rotate_left
   ·have e1:(x0 == ky)=false:=by simp [hkx]
    obtain ⟨K2,hE2⟩:∃ l,l=KK ++ [(⟨x0,x1,x2,x3,x4,x5,x6⟩:Ht)]:=⟨_,rfl⟩
    have hKK2:Hid (K2=(b.htlcs.take (k+1)).filter (fun h => !decide (h.key=ky))):=by unfold Hid;rw [zn ht.out (by simp [hkx]),hE2,← hKK.out]
    have hsl:Hid (hv=D2 (fun h=>decide (h.key=ky)) Ht.zero b.htlcs (k+1)):=by unfold Hid;rw [tx ht.out (by simp [hkx])];exact hsel.out
    have HE2:=lH hE2
    have hl2:K2.length=KK.length+1:=by rw [hE2,List.length_append];rfl
    clear hx ht hnb hkx hE2
    go_wp2_with (at_builtin;refine I1 Hz Tryz.underlying51 rfl dC dC (fun _=>rfl) JI rfl _ _ rfl w _ KK rfl (AC.alloc ho5 _) _ (⟨x0,x1,x2,x3,x4,x5,x6⟩:Ht) rfl (BC _ _ _ rfl) oM (Nat.le_trans hB5.size (Aj _ _)) ?_)
    intro v8 w8 o8 g8 f8
    rw [← HE2.out] at o8
    obtain ⟨a8,c8,rfl,-⟩:=AC.of (ok:=fun _=>True) o8 (fun _ _=>trivial)
    have b58:Ex (Value.slice ao KK.length co).ownBlock.toList w5 w8:=(Ex.of_below (Ae (Below.refl w5 w5) _) _).trans (Ex.of_grown g8)
    have hQ8:=hQ5.ex b58 hun.out
    have hun8:Hid (uh∉(Value.slice a8 K2.length c8).ownBlock.toList):=fun hm=>by
     rcases f8 uh (by simpa using hm) with h | h
     ·exact hun.out (by simpa using h)
     first | omega | (simp at h;omega)
    have FB:Below w w w8:=hB5.trans (b58.below (fun k hk=>(Cj ho5 k hk).1) hB5.size)
    clear f8 g8 b58 hQ5 ho5 P5 HE2
    go_wp2
    go_roundw
    case rel=>exact ⟨k+1,_,K2,hv,by omega,by go_num,rfl,o8,hun8,hKK2,by omega,hsl,hQ8,FB⟩
    case measure=>simp only [intOf];omega
   have e1:(x0 == ky)=true:=by simp [hkx]
   have hKK2:Hid (KK=(b.htlcs.take (k+1)).filter (fun h => !decide (h.key=ky))):=by unfold Hid;rw [za ht.out (by simp [hkx])];exact hKK.out
   have hsl:Hid ((⟨x0,x1,x2,x3,x4,x5,x6⟩:Ht)=D2 (fun h=>decide (h.key=ky)) Ht.zero b.htlcs (k+1)):=Eq.symm <| VJ ht.out (by simp [hkx]) (fun y hy=>by have:=hnb y hy;simp;rw [← hkx];exact this)
   have FQ:Bx (w5.setCells uh 0 [x0,x1,x2,x3,x4,x5,x6]) uh [x0,x1,x2,x3,x4,x5,x6]:=Bx.whole hQ5 rfl
   have FX:Ex [uh] w5 (w5.setCells uh 0 [x0,x1,x2,x3,x4,x5,x6]):=by simp only [World.setCells];exact LB
   have FO:AC Ht.enc 7 184 (w5.setCells uh 0 [x0,x1,x2,x3,x4,x5,x6]) w (.slice ao KK.length co) KK:=AC.kept ho5 FX (fun k hk hm=>hun.out (by simp at hm;subst hm;exact hk))
   have FB:Below w w (w5.setCells uh 0 [x0,x1,x2,x3,x4,x5,x6]):=hB5.trans (FX.below (fun k hk=>by simp at hk;omega) (by have:=hB5.size;omega))
   have z0:=hQ5.fz 0 AF
   have s0:=hQ5.cell 0 _ rfl
   have z1:=hQ5.fz 1 AF
   have s1:=hQ5.cell 1 _ rfl
   have z2:=hQ5.fz 2 AF
   have s2:=hQ5.cell 2 _ rfl
   have z3:=hQ5.fz 3 AF
   have s3:=hQ5.cell 3 _ rfl
   have z4:=hQ5.fz 4 AF
   have s4:=hQ5.cell 4 _ rfl
   have z5:=hQ5.fz 5 AF
   have s5:=hQ5.cell 5 _ rfl
   have z6:=hQ5.fz 6 AF
   have s6:=hQ5.cell 6 _ rfl
   simp only [World.setCells,Nat.zero_add,Nat.reduceAdd] at FQ FO FB
   clear hx ht hnb hkx FX hQ5 ho5 P5
   go_wp2
   go_roundw
   case rel=>exact ⟨k+1,_,KK,_,by omega,by go_num,rfl,FO,hun,hKK2,by omega,hsl,FQ,FB⟩
   case measure=>simp only [intOf];omega
  have hKF:Hid (KK=b.htlcs.filter (fun h => !decide (h.key=ky))):=by have:=hKK.out;unfold Hid;rwa [List.take_of_length_le (by have:=HM.out;omega)] at this
  have hse:=hsel.out
  rw [YS (by have:=HM.out;omega)] at hse
  clear hKK hsel
  obtain ⟨ao,co,rfl,-⟩:=AC.of (ok:=fun _=>True) ho (fun _ _=>trivial)
  have hse2:hv=(⟨q0,q1,q2,q3,q4,q5,q6⟩:Ht):=hse.trans H4.out
  subst hse2
  clear hse
  have hKL:L=KK:=HLF.out.trans hKF.out.symm
  subst hKL
  have OKV:=V.htlcs.oks
  have hok:∀ y∈L,y.ok:=fun y hy=>by rw [HLF.out] at hy;exact OKV y (List.mem_filter.1 hy).1
  have HX:=H.keep hB
  have PX:=P.keep hB
  have Q:=hQ
  have x0:=Q.cell 0 _ rfl
  go_wp2_with fail
  refine (Kl F _ g B b [] 0 15 wr HX).mono ?_
  rintro e w2 ⟨rfl,rfl⟩
  obtain ⟨ar,nr,cr,-,-,-,-,-,HR⟩:=H.htF
  obtain ⟨F',FK,FM,FW⟩:=HR wr (.slice ao L.length co) L (Ex.of_below hB _) (AC.le ho (by have:=H.lt;omega)) (fun k hk=>Or.inr (Cj ho k hk).1) hok
  have p4:=PX.cell 4 _ rfl
  have z4:=PX.fz 4 AF
  have nQ:uh∉g :: F':=fun hm=>by
   rcases List.mem_cons.1 hm with e | hm
   ·omega
   rcases FM uh hm with h | h
   ·have:=(H.lt.2.2 uh h).2;omega
   exact hun.out h
  have Q':=Q.otherC g 4 (.slice ao L.length co) oM
  clear HR FM x0 hQ Q HX PX ho hun hKF hok OKV hB
  go_upto_region 11 with fail
  generalize wr.setCell ⟨g,4,none⟩ (.slice ao L.length co)=w3 at FK FW Q' ⊢
  have H5:=FK
  have WX:=FW
  have Q:=Q'
  clear FK FW Q' p4 z4 P V H
  obtain ⟨y3,z3,l3,P3,V3,-⟩:=H5.cells
  obtain ⟨ay3,m3,cy3,rfl,-,-⟩:=VS.form V3.htlcs
  obtain ⟨az3,r3,cz3,rfl,-,-⟩:=VS.form V3.circles
  have CA:=Hi (.slice (some ⟨gx,0,none⟩) nx cxx) (.slice ay3 m3 cy3) (.slice az3 r3 cz3) {b with htlcs:=L} q1
  dsimp only at CA
  rw [HA1.out] at CA
  obtain ⟨p0,p1,p2,p3,p4,p5⟩:=P3.c6
  have x1:=Q.cell 1 _ rfl
  go_cut [10] (fun v wq=>v = .int .i64 (ia:Int)∧Below w3 w3 wq)
  case first =>
   go_region_with (go_at_call 138;refine (CA _ (V3.keep (bW))).mono ?_;rintro e w4 ⟨rfl,b4⟩)
   all_goals
    go_wp2_with fail
    go_meet
    case rel=>exact ⟨rfl,bW⟩
  case rest =>
   obtain ⟨rfl,b34⟩:=hcut
   obtain ⟨w4,hw4⟩:∃ x,x=wc:=⟨_,rfl⟩
   subst hw4
   have H5:=H5.keep b34
   have Q:=Q.keep b34
   have WX:=WX.trans (Wf.of_below b34)
   clear p0 p1 p2 p3 p4 p5 x1 CA P3 V3 b34
   have x1:=Q.cell 1 _ rfl
   have x3:=Q.cell 3 _ rfl
   go_wp2_with fail
   refine (Eu _ _ g B _ [] 0 q1 q3 0 _ H5 hi1 hso (by unfold AE;dsimp only;rw [aget];omega) (by unfold AE;dsimp only;rw [aget];omega)).mono ?_
   rintro e w9 ⟨rfl,H9,W9⟩
   obtain ⟨Q,nQ⟩:=W9.box Q nQ
   have H5:=H9
   have WX:=WX.trans W9
   clear H9 W9 x1 x3
   have dget2:AM (AU b.chans q1 (AO q3 0)) q2=d:=by rw [Ju (ch:=q1) (f:=(AO q3 0)) (fun _=>rfl) hi2,if_neg (fun e=>hne e.symm),dget]
   have x2:=Q.cell 2 _ rfl
   have x4:=Q.cell 4 _ rfl
   go_wp2_with fail
   refine (Eu _ _ g B _ [] 0 q2 0 q4 _ H5 (by show AI (AU b.chans q1 _) q2=true;rw [Jw (ch:=q1) (f:=(AO q3 0)) (fun _=>rfl)];exact hi2) (D6 (fun _=>rfl) hso) (by unfold AE;dsimp only;rw [dget2];omega) (by unfold AE;dsimp only;rw [dget2];omega)).mono ?_
   rintro e w9 ⟨rfl,H9,W9⟩
   obtain ⟨Q,nQ⟩:=W9.box Q nQ
   have H5:=H9
   have WX:=WX.trans W9
   clear H9 W9 x2 x4
   have aok:=H5.oks
   obtain ⟨y5,z5,l5,P5,-,-⟩:=H5.cells
   have p3:=P5.cell 3 _ rfl
   obtain ⟨w6,hw6⟩:∃ x,x=w9:=⟨_,rfl⟩
   rw [← hw6] at p3 H5 Q WX P5 ⊢
   clear hw6
   have ai2:=Fw (ch:=q2) (f:=(AO 0 q4)) (LE (ch:=q1) (f:=(AO q3 0)) ai aid) (by show a.id≠q2;rw [aid];exact hne)
   have aok2:=aok _ (List.mem_of_getElem? ai2)
   have AT:=H5.at ai2 aid (D6 (fun _=>rfl) (D6 (fun _=>rfl) hso))
   have cA:_=some (Value.int IntKind.i64 (a.score)):=AT.1 6 _ rfl
   have zA:=AT.2.1 (ia*7+6)
   have FIN:=AT.2.2 6 (Co a.score) (fun c=>{c with score:=Co c.score}) dC (by simp [Cn.enc,AO]) (MV aok2 (show AE (Co a.score) from YC (by have:=ack.score;omega)))
   have FW:=FIN.2.trans (Wf.of_below (Below.drew (Below.refl _ _)))
   have FK:=FIN.1.keep (Below.drew (Below.refl _ _))
   obtain ⟨Q',nQ'⟩:=FW.box Q nQ
   have WX':=WX.trans FW
   have CS:=fun w=>yh a.score w aok2.2.2.2.2.2.2
   clear FIN AT FW aok aok2
   go_upto_region 15 with fail
   go_cut [] (fun wq=>wq=World.drew (World.setCell w6 ⟨gx,ia*7+6,none⟩ (Value.int IntKind.i64 (Co a.score))))
   case first =>
    go_region_with (go_at_call 249;refine (CS _).mono ?_;rintro e w8 ⟨rfl,rfl⟩)
    all_goals
     go_wp2_with fail
     go_meet
     case rel=>rfl
   case' rest =>
    obtain ⟨wb,hwn⟩:∃ x,x=wc:=⟨_,rfl⟩
    subst hwn
    rw [← hcut] at FK Q' WX'
    clear hcut
    clear H5 Q nQ WX p3 P5
   have H5:=FK
   have Q:=Q'
   have nQ:=nQ'
   have WX:=WX'
   clear FK Q' nQ' WX' cA zA CS
   have LI:=LsIn.nil
   have x4:=Q.cell 4 _ rfl
   have x3:=Q.cell 3 _ rfl
   obtain ⟨hg,LI⟩:=LsIn.add LI (x:=⟨3,0,q4 - q3⟩) sM Cq uL sM
   go_wp2_with fail
   refine (DK _ _ g B _ _ 0 3 0 (q4 - q3) _ H5 hg).mono ?_
   rintro e w9 ⟨rfl,F9,H9,W9⟩
   obtain ⟨Q,nQ⟩:=W9.box Q nQ
   have H5:=H9
   have WX:=WX.trans W9
   clear H9 W9 hg x4 x3
   have x1:=Q.cell 1 _ rfl
   have x3:=Q.cell 3 _ rfl
   obtain ⟨hg,LI⟩:=LsIn.add LI (x:=⟨6,q1,q3⟩) sM Cq uL sM
   go_wp2_with fail
   refine (DK _ _ g B _ _ 0 6 q1 (q3) _ H5 hg).mono ?_
   rintro e w9 ⟨rfl,F9,H9,W9⟩
   obtain ⟨Q,nQ⟩:=W9.box Q nQ
   have H5:=H9
   have WX:=WX.trans W9
   clear H9 W9 hg x1 x3
   have x2:=Q.cell 2 _ rfl
   have x4:=Q.cell 4 _ rfl
   obtain ⟨hg,LI⟩:=LsIn.add LI (x:=⟨8,q2,-q4⟩) sM Cq uL sM
   go_wp2_with fail
   refine (DK _ _ g B _ _ 0 8 q2 (-q4) _ H5 hg).mono ?_
   rintro e w9 ⟨rfl,F9,H9,W9⟩
   obtain ⟨Q,nQ⟩:=W9.box Q nQ
   have H5:=H9
   have WX:=WX.trans W9
   clear H9 W9 hg x2 x4
   go_wp2
   go_end0
   refine ⟨rfl,_,?_,WX⟩
   rw [Gb,Gy,Uv] at H5
   ·exact H5
   all_goals simp
theorem uS (F:List Nat) (x:Value) (g B:Nat) (b:Bk) (ky:Int) (w:World) (H:Wk F x w g B b [] 0) (hb:Bok b) (hky:1≤ky) (hh:Aw b ky=true):Calls Tryz.prog 155 #[.pointer (some ⟨g,0,none⟩),ky,false] w fun e w'=>e = .returned (.tuple #[])∧∃ F',Wk F' x w' g B {b with htlcs:=b.htlcs.filter (fun h => !decide (h.key=ky)),chans:=AU (AU (AU b.chans (Ac b ky).inn (AO 0 (Ac b ky).ain)) (Ac b ky).out (AO (Ac b ky).aout 0)) (Ac b ky).inn (fun c=>{c with score:=Ch c.score})} (BL [⟨6,(Ac b ky).out,(Ac b ky).aout⟩,⟨8,(Ac b ky).out,-(Ac b ky).aout⟩]) 0∧Wf g F F' w w':=by
 obtain ⟨i,h,h1,h2,h3,h4,h5⟩:=XR hh
 rw [h4]
 have HK:=hb.pk.hs h (List.mem_of_getElem? h2)
 obtain ⟨hne,hx1,hx2⟩:=HK.ap
 have hi1:=(DO b.chans _).2 hx1
 have hi2:=(DO b.chans _).2 hx2
 obtain ⟨L,hL⟩:∃ L,L=b.htlcs.filter (fun h => !decide (h.key=ky)):=⟨_,rfl⟩
 rw [← hL]
 have HLF:=lH hL
 clear hL hx1 hx2 hh
 have hso:=hb.so
 have hcks:=hb.ck
 have a1:=HK.ain
 have a2:=HK.o1
 have a3:=HK.o2
 clear HK
 obtain ⟨q0,q1,q2,q3,q4,q5,q6⟩:=h
 dsimp only at h3 hne hi1 hi2 a1 a2 a3 ⊢
 unfold Am at a1
 have H4:=lH h4
 clear h2 h1 h4 h5
 have e0:(q0 == 0)=false:=by rw [beq_eq_false_iff_ne];omega
 clear h3
 obtain ⟨ia,a,ha1,ai,aid,aget,ialt⟩:=EH hi1
 obtain ⟨jd,d,-,di,did,dget,-⟩:=EH hi2
 have ack:=hcks a (List.mem_of_getElem? ai)
 have dck:=hcks d (List.mem_of_getElem? di)
 have alo:=ack.loc
 have are:=ack.rem
 have dlo:=dck.loc
 have dre:=dck.rem
 unfold Am at alo are dlo dre
 have hq1:1≤q1∧q1≤99:=by rw [← aid];exact ack.id
 have hq2:1≤q2∧q2≤99:=by rw [← did];exact dck.id
 obtain ⟨xx,nx,cxx,hxe,hnx,hcx,hrx⟩:=H.row
 obtain ⟨gx,rfl,-⟩:=hrx oM
 have HNX:=lH hnx
 have hianx:ia<nx:=by omega
 have HA1:=lH ha1
 clear hnx hrx ha1 ialt
 subst hxe
 obtain ⟨y,z,l,P,V,-⟩:=H.cells
 obtain ⟨ay,m,cy,rfl,hm,-⟩:=VS.form V.htlcs
 obtain ⟨az,q,cz,rfl,hq,-⟩:=VS.form V.circles
 have hLB:=VS.lenB V.htlcs
 have HM:=lH hm
 have hnd:=lH hb.pk.ndH
 have hsm:b.htlcs.length≤60:=hb.pk.h60
 rw [HM.out] at hsm
 clear hm hq
 have O0:AC Ht.enc 7 184 (w.alloc (.cells #[] 184)) w (.slice (some ⟨w,0,none⟩) 0 0) []:=AC.made (enc:=Ht.enc) (sz:=7) (E:=184) w w (Nat.le_refl _)
 have b0:=bA w [] 184
 have hz0:=bZ w [] 184
 go_enter Tryz.func155,Tryz.ntmps155
 go_upto_region 1 with fail
 generalize w.alloc (.cells #[] 184)=w0 at O0 b0 hz0 ⊢
 have Q1:=bN w0 [I0,I0,I0,I0,I0,false,I0] 184
 have b1:=bA w0 [I0,I0,I0,I0,I0,false,I0] 184
 obtain ⟨uh,huh⟩:∃ u,u=w.heap.size+1:=⟨_,rfl⟩
 rw [hz0,← huh] at Q1
 go_upto_region 2 with fail
 rw [← huh]
 generalize w0.alloc (.cells #[I0,I0,I0,I0,I0,false,I0] 184)=w1 at Q1 b1 ⊢
 have B1:=AD b1 b0
 have O1:AC Ht.enc 7 184 w1 w _ []:=AC.keep O0 b1
 have P1:=P.keep B1
 have hgl:=P.lt
 have huw:w.heap.size+1=uh:=by omega
 clear O0 b0 b1 hz0 huh
 have p4:=P1.cell 4 _ rfl
 go_wp2
 go_loopw [6,9,19] (fun ks _ i wr=>∃ (k:Nat) (v:Value) (KK:List Ht) (hv:Ht),k≤m∧i=k∧ks=v∧AC Ht.enc 7 184 wr w v KK∧Hid (uh∉v.ownBlock.toList)∧Hid (KK=(b.htlcs.take k).filter (fun h => !decide (h.key=ky)))∧KK.length≤k∧Hid (hv=D2 (fun h=>decide (h.key=ky)) Ht.zero b.htlcs k)∧Bx wr uh hv.enc∧Below w w wr) (fun _ _ i _=>m - (intOf i).toNat)
 case atStart=>exact ⟨0,_,[],Ht.zero,Nat.zero_le _,rfl,rfl,O1,by unfold Hid;simp [Value.ownBlock];omega,rfl,Nat.le_refl _,XM.symm,Q1,B1⟩
 case round =>
  obtain ⟨k,v,KK,hv,hk,rfl,rfl,ho,hun,hKK,hKl,hsel,hQ,hB⟩:=hrel
  clear O1 Q1 P1 p4 B1
  have hul:=hQ.lt
  by_cases hlt:k<m
  ·obtain ⟨ao,co,rfl,-⟩:=AC.of (ok:=fun _=>True) ho (fun _ _=>trivial)
   obtain ⟨g1,off,⟨x0,x1,x2,x3,x4,x5,x6⟩,rfl,hg1,-,⟨c0,c1,c2,c3,c4,c5,c6⟩,hx,ht⟩:=DC.at_ (V.keep hB).htlcs hlt
   go_upto_region 5 with fail
   refine cW fun w5 P5 b5 => ?_
   obtain ⟨ux,hux⟩:∃ u,u=wr.heap.size:=⟨_,rfl⟩
   rw [← hux] at P5 ⊢
   clear hux
   have hQ5:=hQ.keep b5
   have ho5:AC Ht.enc 7 184 w5 w (.slice ao KK.length co) KK:=AC.keep ho b5
   have hB5:=AD b5 hB
   have hl5:=P5.lt
   have hul5:=hQ5.lt
   clear c0 c1 c2 c3 c4 c5 c6 ho hQ hB hg1 b5
   have hnb:=XB (f:=fun h=>h.key) hnd.out hx.out
   dsimp only at hnb
   obtain ⟨d0,d1,d2,d3,d4,d5,d6⟩:=P5.c7
   by_cases hkx:x0=ky;rotate_left
   ·have e1:(x0 == ky)=false:=by simp [hkx]
    obtain ⟨K2,hE2⟩:∃ l,l=KK ++ [(⟨x0,x1,x2,x3,x4,x5,x6⟩:Ht)]:=⟨_,rfl⟩
    have hKK2:Hid (K2=(b.htlcs.take (k+1)).filter (fun h => !decide (h.key=ky))):=by unfold Hid;rw [zn ht.out (by simp [hkx]),hE2,← hKK.out]
    have hsl:Hid (hv=D2 (fun h=>decide (h.key=ky)) Ht.zero b.htlcs (k+1)):=by unfold Hid;rw [tx ht.out (by simp [hkx])];exact hsel.out
    have HE2:=lH hE2
    have hl2:K2.length=KK.length+1:=by rw [hE2,List.length_append];rfl
    clear hx ht hnb hkx hE2
    go_wp2_with (at_builtin;refine I1 Hz Tryz.underlying51 rfl dC dC (fun _=>rfl) JI rfl _ _ rfl w _ KK rfl (AC.alloc ho5 _) _ (⟨x0,x1,x2,x3,x4,x5,x6⟩:Ht) rfl (BC _ _ _ rfl) oM (Nat.le_trans hB5.size (Aj _ _)) ?_)
    intro v8 w8 o8 g8 f8
    rw [← HE2.out] at o8
    obtain ⟨a8,c8,rfl,-⟩:=AC.of (ok:=fun _=>True) o8 (fun _ _=>trivial)
    have b58:Ex (Value.slice ao KK.length co).ownBlock.toList w5 w8:=(Ex.of_below (Ae (Below.refl w5 w5) _) _).trans (Ex.of_grown g8)
    have hQ8:=hQ5.ex b58 hun.out
    have hun8:Hid (uh∉(Value.slice a8 K2.length c8).ownBlock.toList):=fun hm=>by
     rcases f8 uh (by simpa using hm) with h | h
     ·exact hun.out (by simpa using h)
     first | omega | (simp at h;omega)
    have FB:Below w w w8:=hB5.trans (b58.below (fun k hk=>(Cj ho5 k hk).1) hB5.size)
    clear f8 g8 b58 hQ5 ho5 P5 HE2
    go_wp2
    go_roundw
    case rel=>exact ⟨k+1,_,K2,hv,by omega,by go_num,rfl,o8,hun8,hKK2,by omega,hsl,hQ8,FB⟩
    case measure=>simp only [intOf];omega
   have e1:(x0 == ky)=true:=by simp [hkx]
   have hKK2:Hid (KK=(b.htlcs.take (k+1)).filter (fun h => !decide (h.key=ky))):=by unfold Hid;rw [za ht.out (by simp [hkx])];exact hKK.out
   have hsl:Hid ((⟨x0,x1,x2,x3,x4,x5,x6⟩:Ht)=D2 (fun h=>decide (h.key=ky)) Ht.zero b.htlcs (k+1)):=Eq.symm <| VJ ht.out (by simp [hkx]) (fun y hy=>by have:=hnb y hy;simp;rw [← hkx];exact this)
   have FQ:Bx (w5.setCells uh 0 [x0,x1,x2,x3,x4,x5,x6]) uh [x0,x1,x2,x3,x4,x5,x6]:=Bx.whole hQ5 rfl
   have FX:Ex [uh] w5 (w5.setCells uh 0 [x0,x1,x2,x3,x4,x5,x6]):=by simp only [World.setCells];exact LB
   have FO:AC Ht.enc 7 184 (w5.setCells uh 0 [x0,x1,x2,x3,x4,x5,x6]) w (.slice ao KK.length co) KK:=AC.kept ho5 FX (fun k hk hm=>hun.out (by simp at hm;subst hm;exact hk))
   have FB:Below w w (w5.setCells uh 0 [x0,x1,x2,x3,x4,x5,x6]):=hB5.trans (FX.below (fun k hk=>by simp at hk;omega) (by have:=hB5.size;omega))
   have z0:=hQ5.fz 0 AF
   have s0:=hQ5.cell 0 _ rfl
   have z1:=hQ5.fz 1 AF
   have s1:=hQ5.cell 1 _ rfl
   have z2:=hQ5.fz 2 AF
   have s2:=hQ5.cell 2 _ rfl
   have z3:=hQ5.fz 3 AF
   have s3:=hQ5.cell 3 _ rfl
   have z4:=hQ5.fz 4 AF
   have s4:=hQ5.cell 4 _ rfl
   have z5:=hQ5.fz 5 AF
   have s5:=hQ5.cell 5 _ rfl
   have z6:=hQ5.fz 6 AF
   have s6:=hQ5.cell 6 _ rfl
   simp only [World.setCells,Nat.zero_add,Nat.reduceAdd] at FQ FO FB
   clear hx ht hnb hkx FX hQ5 ho5 P5
   go_wp2
   go_roundw
   case rel=>exact ⟨k+1,_,KK,_,by omega,by go_num,rfl,FO,hun,hKK2,by omega,hsl,FQ,FB⟩
   case measure=>simp only [intOf];omega
  have hKF:Hid (KK=b.htlcs.filter (fun h => !decide (h.key=ky))):=by have:=hKK.out;unfold Hid;rwa [List.take_of_length_le (by have:=HM.out;omega)] at this
  have hse:=hsel.out
  rw [YS (by have:=HM.out;omega)] at hse
  clear hKK hsel
  obtain ⟨ao,co,rfl,-⟩:=AC.of (ok:=fun _=>True) ho (fun _ _=>trivial)
  have hse2:hv=(⟨q0,q1,q2,q3,q4,q5,q6⟩:Ht):=hse.trans H4.out
  subst hse2
  clear hse
  have hKL:L=KK:=HLF.out.trans hKF.out.symm
  subst hKL
  have OKV:=V.htlcs.oks
  have hok:∀ y∈L,y.ok:=fun y hy=>by rw [HLF.out] at hy;exact OKV y (List.mem_filter.1 hy).1
  have HX:=H.keep hB
  have PX:=P.keep hB
  have Q:=hQ
  have x0:=Q.cell 0 _ rfl
  go_wp2_with fail
  refine (Kl F _ g B b [] 0 15 wr HX).mono ?_
  rintro e w2 ⟨rfl,rfl⟩
  obtain ⟨ar,nr,cr,-,-,-,-,-,HR⟩:=H.htF
  obtain ⟨F',FK,FM,FW⟩:=HR wr (.slice ao L.length co) L (Ex.of_below hB _) (AC.le ho (by have:=H.lt;omega)) (fun k hk=>Or.inr (Cj ho k hk).1) hok
  have p4:=PX.cell 4 _ rfl
  have z4:=PX.fz 4 AF
  have nQ:uh∉g :: F':=fun hm=>by
   rcases List.mem_cons.1 hm with e | hm
   ·omega
   rcases FM uh hm with h | h
   ·have:=(H.lt.2.2 uh h).2;omega
   exact hun.out h
  have Q':=Q.otherC g 4 (.slice ao L.length co) oM
  clear HR FM x0 hQ Q HX PX ho hun hKF hok OKV hB
  go_upto_region 11 with fail
  generalize wr.setCell ⟨g,4,none⟩ (.slice ao L.length co)=w3 at FK FW Q' ⊢
  have H5:=FK
  have WX:=FW
  have Q:=Q'
  clear FK FW Q' p4 z4 P V H
  obtain ⟨y3,z3,l3,P3,V3,-⟩:=H5.cells
  obtain ⟨ay3,m3,cy3,rfl,-,-⟩:=VS.form V3.htlcs
  obtain ⟨az3,r3,cz3,rfl,-,-⟩:=VS.form V3.circles
  have CA:=Hi (.slice (some ⟨gx,0,none⟩) nx cxx) (.slice ay3 m3 cy3) (.slice az3 r3 cz3) {b with htlcs:=L} q1
  dsimp only at CA
  rw [HA1.out] at CA
  obtain ⟨p0,p1,p2,p3,p4,p5⟩:=P3.c6
  have x1:=Q.cell 1 _ rfl
  go_cut [10] (fun v wq=>v = .int .i64 (ia:Int)∧Below w3 w3 wq)
  case first =>
   go_region_with (go_at_call 138;refine (CA _ (V3.keep (bW))).mono ?_;rintro e w4 ⟨rfl,b4⟩)
   all_goals
    go_wp2_with fail
    go_meet
    case rel=>exact ⟨rfl,bW⟩
  case rest =>
   obtain ⟨rfl,b34⟩:=hcut
   obtain ⟨w4,hw4⟩:∃ x,x=wc:=⟨_,rfl⟩
   subst hw4
   have H5:=H5.keep b34
   have Q:=Q.keep b34
   have WX:=WX.trans (Wf.of_below b34)
   clear p0 p1 p2 p3 p4 p5 x1 CA P3 V3 b34
   have x1:=Q.cell 1 _ rfl
   have x3:=Q.cell 3 _ rfl
   go_wp2_with fail
   refine (Eu _ _ g B _ [] 0 q1 0 q3 _ H5 hi1 hso (by unfold AE;dsimp only;rw [aget];omega) (by unfold AE;dsimp only;rw [aget];omega)).mono ?_
   rintro e w9 ⟨rfl,H9,W9⟩
   obtain ⟨Q,nQ⟩:=W9.box Q nQ
   have H5:=H9
   have WX:=WX.trans W9
   clear H9 W9 x1 x3
   have dget2:AM (AU b.chans q1 (AO 0 q3)) q2=d:=by rw [Ju (ch:=q1) (f:=(AO 0 q3)) (fun _=>rfl) hi2,if_neg (fun e=>hne e.symm),dget]
   have x2:=Q.cell 2 _ rfl
   have x4:=Q.cell 4 _ rfl
   go_wp2_with fail
   refine (Eu _ _ g B _ [] 0 q2 q4 0 _ H5 (by show AI (AU b.chans q1 _) q2=true;rw [Jw (ch:=q1) (f:=(AO 0 q3)) (fun _=>rfl)];exact hi2) (D6 (fun _=>rfl) hso) (by unfold AE;dsimp only;rw [dget2];omega) (by unfold AE;dsimp only;rw [dget2];omega)).mono ?_
   rintro e w9 ⟨rfl,H9,W9⟩
   obtain ⟨Q,nQ⟩:=W9.box Q nQ
   have H5:=H9
   have WX:=WX.trans W9
   clear H9 W9 x2 x4
   have aok:=H5.oks
   obtain ⟨y5,z5,l5,P5,-,-⟩:=H5.cells
   have p3:=P5.cell 3 _ rfl
   obtain ⟨w6,hw6⟩:∃ x,x=w9:=⟨_,rfl⟩
   rw [← hw6] at p3 H5 Q WX P5 ⊢
   clear hw6
   have ai2:=Fw (ch:=q2) (f:=(AO q4 0)) (LE (ch:=q1) (f:=(AO 0 q3)) ai aid) (by show a.id≠q2;rw [aid];exact hne)
   have aok2:=aok _ (List.mem_of_getElem? ai2)
   have AT:=H5.at ai2 aid (D6 (fun _=>rfl) (D6 (fun _=>rfl) hso))
   have cA:_=some (Value.int IntKind.i64 (a.score)):=AT.1 6 _ rfl
   have zA:=AT.2.1 (ia*7+6)
   have FIN:=AT.2.2 6 (Ch a.score) (fun c=>{c with score:=Ch c.score}) dC (by simp [Cn.enc,AO]) (MV aok2 (show AE (Ch a.score) from YM (by have:=ack.score;omega)))
   have FW:=FIN.2.trans (Wf.of_below (Below.drew (Below.refl _ _)))
   have FK:=FIN.1.keep (Below.drew (Below.refl _ _))
   obtain ⟨Q',nQ'⟩:=FW.box Q nQ
   have WX':=WX.trans FW
   have CS:=fun w=>A0K a.score w aok2.2.2.2.2.2.2
   clear FIN AT FW aok aok2
   go_upto_region 20 with fail
   go_cut [] (fun wq=>wq=World.drew (World.setCell w6 ⟨gx,ia*7+6,none⟩ (Value.int IntKind.i64 (Ch a.score))))
   case first =>
    go_region_with (go_at_call 250;refine (CS _).mono ?_;rintro e w8 ⟨rfl,rfl⟩)
    all_goals
     go_wp2_with fail
     go_meet
     case rel=>rfl
   case' rest =>
    obtain ⟨wb,hwn⟩:∃ x,x=wc:=⟨_,rfl⟩
    subst hwn
    rw [← hcut] at FK Q' WX'
    clear hcut
    clear H5 Q nQ WX p3 P5
   have H5:=FK
   have Q:=Q'
   have nQ:=nQ'
   have WX:=WX'
   clear FK Q' nQ' WX' cA zA CS
   have LI:=LsIn.nil
   have x2:=Q.cell 2 _ rfl
   have x4:=Q.cell 4 _ rfl
   obtain ⟨hg,LI⟩:=LsIn.add LI (x:=⟨6,q2,q4⟩) sM Cq uL sM
   go_wp2_with fail
   refine (DK _ _ g B _ _ 0 6 q2 (q4) _ H5 hg).mono ?_
   rintro e w9 ⟨rfl,F9,H9,W9⟩
   obtain ⟨Q,nQ⟩:=W9.box Q nQ
   have H5:=H9
   have WX:=WX.trans W9
   clear H9 W9 hg x2 x4
   have x2:=Q.cell 2 _ rfl
   have x4:=Q.cell 4 _ rfl
   obtain ⟨hg,LI⟩:=LsIn.add LI (x:=⟨8,q2,-q4⟩) sM Cq uL sM
   go_wp2_with fail
   refine (DK _ _ g B _ _ 0 8 q2 (-q4) _ H5 hg).mono ?_
   rintro e w9 ⟨rfl,F9,H9,W9⟩
   obtain ⟨Q,nQ⟩:=W9.box Q nQ
   have H5:=H9
   have WX:=WX.trans W9
   clear H9 W9 hg x2 x4
   go_wp2
   go_end0
   refine ⟨rfl,_,?_,WX⟩
   rw [Gb,Gy] at H5
   ·exact H5
   all_goals simp
end Go.Proofs.YtahefgkdbecemaaGreat
