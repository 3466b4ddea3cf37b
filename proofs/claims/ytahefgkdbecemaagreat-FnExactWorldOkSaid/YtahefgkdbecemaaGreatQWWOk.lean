/- FnExactWorldOk: the law walked. -/
import Derived.Test.YtahefgkdbecemaaGreatQ7
import Derived.Test.YtahefgkdbecemaaGreatQXtra
import Derived.Test.YtahefgkdbecemaaGreatQ47
import Derived.Test.YtahefgkdbecemaaGreatQ8
import Derived.Deep.RegionWith
import Derived.Deep.DeepCutAuto
import Derived.Deep.RegionHeld3
namespace Go.Proofs.YtahefgkdbecemaaGreat
open Go.RowKit
set_option linter.unusedVariables false
set_option linter.unusedSimpArgs false
set_option maxRecDepth 100000
set_option maxHeartbeats 12800000
theorem VS.one {α:Type} {en:α→List Value} {sz:Nat} {ok:α→Prop} {w:World} {B:Nat} {v:Value} {xs:List α} (h:VS en sz ok w B v xs):v.oneCell'=true:=by
 obtain ⟨a,n,c,rfl,_⟩:=h
 rfl
theorem VN.one {α β:Type} {K:Kd α β} {w:World} {B:Nat} {v:Value} {xs:List α} (h:VN K w B v xs):v.oneCell'=true:=by
 obtain ⟨a,n,c,rfl,_⟩:=h
 rfl
theorem WdV.one {c d x y z l p q c2 d2 t s k:Value} {W:Wd} {w:World} {B:Nat} (V:WdV w B c d x y z l p q c2 d2 t s k W):∀ v∈([W.up,c,d,W.hub.log.next,W.hub.log.epoch,W.hub.book.tick,W.hub.book.next,W.hub.book.wallet,x,y,z,W.hub.ledger.last,l,p,q,c2,d2,t,s,k]:List Value),v.oneCell'=true:=by
 intro v hv
 simp only [List.mem_cons,List.not_mem_nil,or_false] at hv
 rcases hv with rfl | rfl | rfl | rfl | rfl | rfl | rfl | rfl | rfl | rfl | rfl | rfl | rfl | rfl | rfl | rfl | rfl | rfl | rfl | rfl
 all_goals first | rfl | exact V.hub.log.disk.cells.one | exact V.hub.log.disk.dirty.one | exact V.hub.book.chans.one | exact V.hub.book.htlcs.one | exact V.hub.book.circles.one | exact V.hub.ledger.lines.one | exact V.hub.wait.one | exact V.hub.sent.one | exact V.disk.cells.one | exact V.disk.dirty.one | exact V.took.one | exact V.sent.one | exact V.codes.one
theorem A1E (c d x y z l p q c2 d2 t s k:Value) (W:Wd) (w:World) (V:WdV w w c d x y z l p q c2 d2 t s k W):Calls Tryz.prog 3 #[.agg #[W.up,c,d,W.hub.log.next,W.hub.log.epoch,W.hub.book.tick,W.hub.book.next,W.hub.book.wallet,x,y,z,W.hub.ledger.last,l,p,q,c2,d2,t,s,k]] w fun e w'=>e = .returned true∧Below w w w':=by
 go_enter Tryz.func3,Tryz.ntmps3
 go_upto_region 2 with fail
 have hP:=bN w [W.up,c,d,W.hub.log.next,W.hub.log.epoch,W.hub.book.tick,W.hub.book.next,W.hub.book.wallet,x,y,z,W.hub.ledger.last,l,p,q,c2,d2,t,s,k] 41
 have B0:Below w w (w.alloc (.cells #[W.up,c,d,W.hub.log.next,W.hub.log.epoch,W.hub.book.tick,W.hub.book.next,W.hub.book.wallet,x,y,z,W.hub.ledger.last,l,p,q,c2,d2,t,s,k] 41)):=bW
 generalize w.alloc (.cells #[W.up,c,d,W.hub.log.next,W.hub.log.epoch,W.hub.book.tick,W.hub.book.next,W.hub.book.wallet,x,y,z,W.hub.ledger.last,l,p,q,c2,d2,t,s,k] 41)=X0 at hP B0 ⊢
 go_wp2_with ((show Go.wpList _ _ _ ((Go.Oper.mk _ (Go.Op.load 41 _) _ _ _ _) :: _) _ _);refine Ce Ha ID rfl _ rfl _ _ rfl [W.up,c,d,W.hub.log.next,W.hub.log.epoch,W.hub.book.tick,W.hub.book.next,W.hub.book.wallet,x,y,z,W.hub.ledger.last,l,p,q,c2,d2,t,s,k] (hP.range 0 [W.up,c,d,W.hub.log.next,W.hub.log.epoch,W.hub.book.tick,W.hub.book.next,W.hub.book.wallet,x,y,z,W.hub.ledger.last,l,p,q,c2,d2,t,s,k] rfl) rfl ?_)
 refine (Yk _ _ _ _ _ _ _ _ _ _ _ _ _ W _ X0 (V.keep B0) dC dC).mono ?_
 rintro e w1 ⟨⟨r,rfl,hr⟩,hb⟩
 have B1:Below w w w1:=AD hb B0
 replace hP:=hP.keep hb
 clear hb
 rcases hr with rfl | ⟨r0,r1,hB⟩
 ·go_wp2
  go_ret
  exact ⟨rfl,B1⟩
 go_wp2_with ((show Go.wpList _ _ _ ((Go.Oper.mk _ (Go.Op.load 41 _) _ _ _ _) :: _) _ _);refine Ce Ha ID rfl _ rfl _ _ rfl [W.up,c,d,W.hub.log.next,W.hub.log.epoch,W.hub.book.tick,W.hub.book.next,W.hub.book.wallet,x,y,z,W.hub.ledger.last,l,p,q,c2,d2,t,s,k] (hP.range 0 [W.up,c,d,W.hub.log.next,W.hub.log.epoch,W.hub.book.tick,W.hub.book.next,W.hub.book.wallet,x,y,z,W.hub.ledger.last,l,p,q,c2,d2,t,s,k] rfl) rfl ?_)
 refine (Jg _ _ _ _ _ _ _ _ _ _ _ _ _ W w1 (V.keep B1) hB).mono ?_
 rintro e w2 ⟨⟨F,c',d',x',y',z',l',p',q',c2',d2',t',s',k',rfl,O2⟩,hb⟩
 have B2:Below w w w2:=AD hb B1
 replace hP:=hP.keep hb
 clear hb
 go_wp2_with fail
 refine (Xe _ _ _ _ _ _ _ _ _ _ _ _ _ W w2 O2.vw hB).mono ?_
 rintro e w3 ⟨rfl,hb⟩
 have B3:Below w w w3:=AD hb B2
 replace hP:=hP.keep hb
 clear hb O2
 go_wp2_with ((show Go.wpList _ _ _ ((Go.Oper.mk _ (Go.Op.load 41 _) _ _ _ _) :: _) _ _);refine Ce Ha ID rfl _ rfl _ _ rfl [W.up,c,d,W.hub.log.next,W.hub.log.epoch,W.hub.book.tick,W.hub.book.next,W.hub.book.wallet,x,y,z,W.hub.ledger.last,l,p,q,c2,d2,t,s,k] (hP.range 0 [W.up,c,d,W.hub.log.next,W.hub.log.epoch,W.hub.book.tick,W.hub.book.next,W.hub.book.wallet,x,y,z,W.hub.ledger.last,l,p,q,c2,d2,t,s,k] rfl) rfl ?_)
 refine (Jg _ _ _ _ _ _ _ _ _ _ _ _ _ W w3 (V.keep B3) hB).mono ?_
 rintro e w4 ⟨⟨F4,c',d',x',y',z',l',p',q',c2',d2',t',s',k',rfl,O4⟩,hb⟩
 have B4:Below w w w4:=AD hb B3
 replace hP:=hP.keep hb
 have V4:=O4.vw
 clear hb O4
 have hone:=V4.one
 have hQ0:=bN w4 [false, .slice none 0 0, .slice none 0 0,I0,I0,I0,I0,I0, .slice none 0 0, .slice none 0 0, .slice none 0 0,I0, .slice none 0 0, .slice none 0 0, .slice none 0 0, .slice none 0 0, .slice none 0 0, .slice none 0 0, .slice none 0 0, .slice none 0 0] 62
 go_upto_region 7 with ((show Go.wpList _ _ _ ((Go.Oper.mk _ (Go.Op.store 62 _ _) _ _ _ _) :: _) _ _);refine M6 Fh rfl _ _ rfl w4 0 [W.up,c',d',W.hub.log.next,W.hub.log.epoch,W.hub.book.tick,W.hub.book.next,W.hub.book.wallet,x',y',z',W.hub.ledger.last,l',p',q',c2',d2',t',s',k'] rfl rfl (hQ0.there 0 20 AF) rfl hone ?_)
 have hQ:Bx ((w4.alloc (.cells #[false, .slice none 0 0, .slice none 0 0,I0,I0,I0,I0,I0, .slice none 0 0, .slice none 0 0, .slice none 0 0,I0, .slice none 0 0, .slice none 0 0, .slice none 0 0, .slice none 0 0, .slice none 0 0, .slice none 0 0, .slice none 0 0, .slice none 0 0] 62)).setCells w4 0 [W.up,c',d',W.hub.log.next,W.hub.log.epoch,W.hub.book.tick,W.hub.book.next,W.hub.book.wallet,x',y',z',W.hub.ledger.last,l',p',q',c2',d2',t',s',k']) w4 [W.up,c',d',W.hub.log.next,W.hub.log.epoch,W.hub.book.tick,W.hub.book.next,W.hub.book.wallet,x',y',z',W.hub.ledger.last,l',p',q',c2',d2',t',s',k']:=hQ0.set 0 [W.up,c',d',W.hub.log.next,W.hub.log.epoch,W.hub.book.tick,W.hub.book.next,W.hub.book.wallet,x',y',z',W.hub.ledger.last,l',p',q',c2',d2',t',s',k'] AF
 have hP5:Bx ((w4.alloc (.cells #[false, .slice none 0 0, .slice none 0 0,I0,I0,I0,I0,I0, .slice none 0 0, .slice none 0 0, .slice none 0 0,I0, .slice none 0 0, .slice none 0 0, .slice none 0 0, .slice none 0 0, .slice none 0 0, .slice none 0 0, .slice none 0 0, .slice none 0 0] 62)).setCells w4 0 [W.up,c',d',W.hub.log.next,W.hub.log.epoch,W.hub.book.tick,W.hub.book.next,W.hub.book.wallet,x',y',z',W.hub.ledger.last,l',p',q',c2',d2',t',s',k']) w [W.up,c,d,W.hub.log.next,W.hub.log.epoch,W.hub.book.tick,W.hub.book.next,W.hub.book.wallet,x,y,z,W.hub.ledger.last,l,p,q,c2,d2,t,s,k]:=(hP.alloc _).other _ _ _ (by have:=hP.lt;omega)
 have C5:Below w4 w4 ((w4.alloc (.cells #[false, .slice none 0 0, .slice none 0 0,I0,I0,I0,I0,I0, .slice none 0 0, .slice none 0 0, .slice none 0 0,I0, .slice none 0 0, .slice none 0 0, .slice none 0 0, .slice none 0 0, .slice none 0 0, .slice none 0 0, .slice none 0 0, .slice none 0 0] 62)).setCells w4 0 [W.up,c',d',W.hub.log.next,W.hub.log.epoch,W.hub.book.tick,W.hub.book.next,W.hub.book.wallet,x',y',z',W.hub.ledger.last,l',p',q',c2',d2',t',s',k']):=Kp (Nat.le_refl _) [W.up,c',d',W.hub.log.next,W.hub.log.epoch,W.hub.book.tick,W.hub.book.next,W.hub.book.wallet,x',y',z',W.hub.ledger.last,l',p',q',c2',d2',t',s',k'] _ _ (bW)
 generalize (w4.alloc (.cells #[false, .slice none 0 0, .slice none 0 0,I0,I0,I0,I0,I0, .slice none 0 0, .slice none 0 0, .slice none 0 0,I0, .slice none 0 0, .slice none 0 0, .slice none 0 0, .slice none 0 0, .slice none 0 0, .slice none 0 0, .slice none 0 0, .slice none 0 0] 62)).setCells w4 0 [W.up,c',d',W.hub.log.next,W.hub.log.epoch,W.hub.book.tick,W.hub.book.next,W.hub.book.wallet,x',y',z',W.hub.ledger.last,l',p',q',c2',d2',t',s',k']=X5 at hQ hP5 C5 ⊢
 have B5:Below w w X5:=AD C5 B4
 clear hQ0 hP
 go_wp2_with ((show Go.wpList _ _ _ ((Go.Oper.mk _ (Go.Op.load 62 _) _ _ _ _) :: _) _ _);refine Ce Hh Fh rfl _ rfl _ _ rfl [W.up,c',d',W.hub.log.next,W.hub.log.epoch,W.hub.book.tick,W.hub.book.next,W.hub.book.wallet,x',y',z',W.hub.ledger.last,l',p',q',c2',d2',t',s',k'] (hQ.range 0 [W.up,c',d',W.hub.log.next,W.hub.log.epoch,W.hub.book.tick,W.hub.book.next,W.hub.book.wallet,x',y',z',W.hub.ledger.last,l',p',q',c2',d2',t',s',k'] rfl) rfl ?_)
 refine (Um _ _ _ _ _ _ _ _ _ _ _ _ _ W X5 (V4.keep C5) hB).mono ?_
 rintro e w6 ⟨rfl,hb⟩
 have B6:Below w w w6:=AD hb B5
 have C6:Below w4 w4 w6:=AD hb C5
 have hQ6:=hQ.keep hb
 have hP6:=hP5.keep hb
 have r1:=hQ6.at_
 have r2:=hP6.at_
 clear hb hQ hP5 C5
 obtain ⟨fs1,hu1⟩:=Hh
 have hi1:(Tryz.prog.info? 62).map (·.size)=some ([W.up,c',d',W.hub.log.next,W.hub.log.epoch,W.hub.book.tick,W.hub.book.next,W.hub.book.wallet,x',y',z',W.hub.ledger.last,l',p',q',c2',d2',t',s',k']:List Value).length:=Fh
 obtain ⟨fs2,hu2⟩:=Ha
 have hi2:(Tryz.prog.info? 41).map (·.size)=some ([W.up,c,d,W.hub.log.next,W.hub.log.epoch,W.hub.book.tick,W.hub.book.next,W.hub.book.wallet,x,y,z,W.hub.ledger.last,l,p,q,c2,d2,t,s,k]:List Value).length:=ID
 go_upto_region 10 with fail
 refine wp_region_held_drew (S:=fun w'=>w'.rangeAt w4 0 [W.up,c',d',W.hub.log.next,W.hub.log.epoch,W.hub.book.tick,W.hub.book.next,W.hub.book.wallet,x',y',z',W.hub.ledger.last,l',p',q',c2',d2',t',s',k']∧w'.rangeAt w 0 [W.up,c,d,W.hub.log.next,W.hub.log.epoch,W.hub.book.tick,W.hub.book.next,W.hub.book.wallet,x,y,z,W.hub.ledger.last,l,p,q,c2,d2,t,s,k]) kR ⟨r1,r2⟩ (fun hHeld => ?_)
 refine wpAnyH_take (i:=0) (v := .agg #[W.up,c',d',W.hub.log.next,W.hub.log.epoch,W.hub.book.tick,W.hub.book.next,W.hub.book.wallet,x',y',z',W.hub.ledger.last,l',p',q',c2',d2',t',s',k']) rfl kR kR kR (fun _ _ _ h=>h) (yieldsIf_load_mid (by rfl) _ _ rfl _ _ rfl [W.up,c',d',W.hub.log.next,W.hub.log.epoch,W.hub.book.tick,W.hub.book.next,W.hub.book.wallet,x',y',z',W.hub.ledger.last,l',p',q',c2',d2',t',s',k'] _ (fun _ h=>h.1) hu1 rfl hi1) aS ?_
 simp only [Act.put,List.setIfInBounds_toArray,List.set_cons_zero,List.set_cons_succ]
 refine wpAnyH_take (i:=1) (v := .agg #[W.up,c,d,W.hub.log.next,W.hub.log.epoch,W.hub.book.tick,W.hub.book.next,W.hub.book.wallet,x,y,z,W.hub.ledger.last,l,p,q,c2,d2,t,s,k]) rfl kR kR kR (fun _ _ _ h=>h) (yieldsIf_load_mid (by rfl) _ _ rfl _ _ rfl [W.up,c,d,W.hub.log.next,W.hub.log.epoch,W.hub.book.tick,W.hub.book.next,W.hub.book.wallet,x,y,z,W.hub.ledger.last,l,p,q,c2,d2,t,s,k] _ (fun _ h=>h.2) hu2 rfl hi2) aS ?_
 simp only [Act.put,List.setIfInBounds_toArray,List.set_cons_zero,List.set_cons_succ]
 refine wpAnyH_ready (rs := [2]) kR sM ?_
 refine AllReadyH.cons rfl (fun K hK => ?_) AllReadyH.nil
 go_simp
 (go_at_call 11;refine (Jg _ _ _ _ _ _ _ _ _ _ _ _ _ W _ (V.keep (bW)) hB).mono ?_)
 rintro e w7 ⟨⟨F7,c7,d7,x7,y7,z7,l7,p7,q7,c72,d72,t7,s7,k7,rfl,O7⟩,hb⟩
 have D7:Below w6 w6 w7:=bW
 have B7:Below w w w7:=AD D7 B6
 have C7:Below w4 w4 w7:=AD D7 C6
 refine hK.out _ _ ⟨(hQ6.keep D7).at_,(hP6.keep D7).at_⟩ (fun hHeld7 => ?_)
 clear hK K hb
 try simp only [Act.put,List.setIfInBounds_toArray,List.set_cons_zero,List.set_cons_succ]
 refine wpAnyH_ready (rs := [3]) kR sM ?_
 refine AllReadyH.cons rfl (fun K hK => ?_) AllReadyH.nil
 go_simp
 (go_at_call 13;refine (Ve _ _ _ _ _ _ _ _ _ _ _ _ _ _ _ _ _ _ _ _ _ _ _ _ _ _ W _ (V4.keep (bW)) (by have:=O7.vw;exact this.keep (bW))).mono ?_)
 rintro e w8 ⟨rfl,hb⟩
 have D8:Below w7 w7 w8:=bW
 have B8:Below w w w8:=AD D8 B7
 refine hK.out _ _ ⟨((hQ6.keep D7).keep D8).at_,((hP6.keep D7).keep D8).at_⟩ (fun hHeld8 => ?_)
 clear hK K hb
 try simp only [Act.put,List.setIfInBounds_toArray,List.set_cons_zero,List.set_cons_succ]
 refine wpAnyH_take (i:=4) (v := .bool false) rfl kR kR kR (fun _ _ _ h=>h) (Or.inl ⟨by rfl,?_⟩) aS ?_
 ·intro w' hSw
  go_simp
 try simp only [Act.put,List.setIfInBounds_toArray,List.set_cons_zero,List.set_cons_succ]
 refine wpAnyH_done kR ?_ _
 go_wp2
 go_ret
 exact ⟨rfl,bW⟩
end Go.Proofs.YtahefgkdbecemaaGreat
