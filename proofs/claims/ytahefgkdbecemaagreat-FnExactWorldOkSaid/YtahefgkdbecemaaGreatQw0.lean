/- The walks and the laws they lean on. -/
import Derived.Test.YtahefgkdbecemaaGreatQ0
import GoSem.Claim
import GoSem.ClaimJoined
import GoSem.ClaimMapViews
import Derived.JoinedTies
import Derived.KernelRfl
import Derived.WalkKit
import Derived.WalkSpells
import Derived.WalkLawsBesides
import Derived.IntWalk
import Derived.BigQuiet
import Derived.Deep.QuietTactic
import Derived.Lib.Hide
import Derived.Laws.AppendOwnNone
import Derived.Maps.AppendAt
import Derived.Lib.AtoiErrMem
import Derived.Deep.MidRow
import Derived.OrdersHeld
import Derived.Deep.RegionHeld3
import Derived.Laws.BitsAllLaws
import Derived.Lib.ItoaNum
import Derived.Deep.CutBlock
import Derived.Deep.DeepCutAuto
import Derived.Laws.MathBits
import Derived.Deep.RegionWith
import Derived.Laws.OwnMore
import Derived.Deep.RegionLaw
import Derived.Laws.IdiomStrings
import Derived.BigRegion
import Derived.ProofKit
import Derived.OpenShut
import Derived.ShutString
import Derived.ChangeOld
import Derived.Below
import Derived.Lib.SmallJoins
import Derived.Deep.Fields
import Derived.Deep.Slices
namespace Go.Proofs.YtahefgkdbecemaaGreat
open Go.RowKit
set_option linter.unusedVariables false
set_option linter.unusedSimpArgs false
set_option maxRecDepth 100000
set_option maxHeartbeats 12800000
section
variable {p:Prop}
theorem Gi(h:p:=by simpa using h):p:=h
theorem Cr(h:p:=by kernel_rfl):p:=h
theorem An(h:p:=by simp;omega):p:=h
theorem AA(h:p:=by omega):p:=h
theorem Ab(h:p:=by go_num):p:=h
theorem J6(h:p:=by simp [go_sem]):p:=h
theorem AP(h:p:=by simp):p:=h
theorem FD(h:p:=by simp [maxLen]):p:=h
theorem JL(h:p:=by rw [hr.out]):p:=h
theorem FF(h:p:=by simp [Value.ownBlock]):p:=h
theorem IX(h:p:=by simp at hx):p:=h
theorem Gj(h:p:=by cases e):p:=h
theorem DW(h:p:=by simpa using hown):p:=h
theorem A48(h:p:=by have:=(List.getElem?_eq_some_iff.1 hj).1;rwa [DN henc] at this):p:=h
theorem NT(h:p:=by have:=h.len;omega):p:=h
theorem Qt(h:p:=by simpa using hr):p:=h
theorem Qw(h:p:=by simpa using hj):p:=h
theorem BT(h:p:=by simp [hl]):p:=h
theorem J8(h:p:=by simp [size_madeCells]):p:=h
theorem FG(h:p:=by decide):p:=h
theorem Y9(h:p:=by unfold dq dr;rw [Hk.out];rfl):p:=h
theorem A49(h:p:=by unfold Hid;rw [show ((k:Int) - 1+1).toNat=k by omega];exact hX2.out.symm):p:=h
theorem Ia(h:p:=by unfold Hid;omega):p:=h
theorem NU(h:p:=by rw [← HYd.out];exact hlt):p:=h
theorem cP(h:p:=by rw [← Hq.out];go_num):p:=h
theorem NV(h:p:=by rw [← HYd.out];exact hU):p:=h
theorem LS(h:p:=by rw [h];simp):p:=h
theorem LT(h:p:=by rw [Ut Hf.out,Hf.out];rfl):p:=h
theorem ZD(h:p:=by unfold Hid Fx;rw [← HQ.out,← HR.out,if_pos ⟨rfl,hr⟩]):p:=h
theorem Ib(h:p:=by unfold Hid;rw [A0D hdv.out hp,Hq.out,ha]):p:=h
theorem cQ(h:p:=by rw [Wu Hf.out,Hf.out,Hq.out];rfl):p:=h
theorem ZG(h:p:=by unfold Hid Fx;rw [← HQ.out,← HR.out,if_neg hup,Int.add_zero]):p:=h
theorem A3(h:p:=by simp only;omega):p:=h
theorem ZO(h:p:=by simp only [List.length_append,List.length_singleton];omega):p:=h
theorem RG(h:p:=by split<;>omega):p:=h
theorem NZ(h:p:=by simpa using h2):p:=h
theorem Ro(h:p:=by unfold Ea;simp only;omega):p:=h
theorem LU(h:p:=by simpa using h1):p:=h
theorem LV(h:p:=by have:=Hl.out;omega):p:=h
theorem Rq(h:p:=by unfold maxLen at hmx;omega):p:=h
theorem RH(h:p:=by (try simp only [Eh,EW,Ad,AH,CJ,decide_eq_true_eq,decide_eq_false_iff_not,Bool.and_eq_true,Bool.or_eq_true,bne_iff_ne,beq_iff_eq,ne_eq,Bool.not_eq_true,Bool.not_eq_false] at *);first | exact tt oM | exact ff oM | exact dd oM | (rw [Bool.eq_iff_iff];simp only [Bool.and_eq_true,Bool.or_eq_true,decide_eq_true_eq,bne_iff_ne,ne_eq,beq_iff_eq];omega)):p:=h
theorem A5A(h:p:=by rw [Hf.out]):p:=h
theorem Lh(h:p:=by simp [hZ]):p:=h
theorem A5B(h:p:=by simp [Cl,hZ]):p:=h
theorem cR(h:p:=by simp [Cl,hM]):p:=h
theorem Ao(h:p:=by rw [IntKind.wrap_i64];omega):p:=h
theorem A5C(h:p:=by rw [hlast];intro y hy;obtain rfl:=Option.some.inj hy;exact hL):p:=h
theorem Nj(h:p:=by (first | (with_reducible assumption) | (refine VS.keep (by with_reducible assumption) ?_;(repeat (first | (with_reducible assumption) | (with_reducible exact Below.refl _ _) | (with_reducible refine Below.setCell ?_ (by first | (simp;done) | (simp [*];done)) _) | (with_reducible refine Ae ?_ _) | (with_reducible refine Below.drew ?_) | (with_reducible refine C8 ?_)))) | (refine AC.vs (fun _=>rfl) (by first | (with_reducible assumption) | (refine AC.keep (by with_reducible assumption) ?_;(repeat (first | (with_reducible assumption) | (with_reducible exact Below.refl _ _) | (with_reducible refine Below.setCell ?_ (by first | (simp;done) | (simp [*];done)) _) | (with_reducible refine Ae ?_ _) | (with_reducible refine Below.drew ?_) | (with_reducible refine C8 ?_))))) (by with_reducible assumption)))):p:=h
theorem A5D(h:p:=by unfold Hid;rw [← hbe.out,List.append_assoc,hbt];rfl):p:=h
theorem aG(h:p:=by unfold part;rw [List.length_take];omega):p:=h
theorem cS(h:p:=by unfold Hid;rw [Mw,HN.out,decide_eq_false h1];simp):p:=h
theorem If(h:p:=by rw [hno.out]):p:=h
theorem cT(h:p:=by unfold Hid;rw [Mw,HM.out,decide_eq_false h2];simp):p:=h
theorem A5E(h:p:=by unfold Hid;rw [← HFL.out,LH hx.out (P:=Ga) (by unfold Ga;rw [hum];exact decide_eq_false hg)];rfl):p:=h
theorem A5F(h:p:=by unfold Hid;rw [← hall.out,List.take_of_length_le (by have:=HN.out;omega)]):p:=h
theorem EL(h:p:=by have:=HM.out;omega):p:=h
theorem Rr(h:p:=by rw [hyes.out]):p:=h
theorem A5G(h:p:=by unfold IA;rw [hum,HN.out];exact decide_eq_true hg):p:=h
theorem A5H(h:p:=by unfold Hid;rw [← HFL.out,hall2.out,LH hx.out (P:=IA d.cells.length) (by unfold IA;rw [hum,HN.out];exact decide_eq_false hg)];rfl):p:=h
theorem JM(h:p:=by simp [hc]):p:=h
theorem RK(h:p:=by rw [List.findIdx?_isSome];exact h):p:=h
theorem A5I(h:p:=by have:=hall.out;rwa [show k=n from by omega,List.take_of_length_le (by have:=HN.out;omega)] at this):p:=h
theorem FI(h:p:=by rw [hres.out]):p:=h
theorem Dl(h:p:=by simp [hxy]):p:=h
theorem A8(h:p:=by simp [h0]):p:=h
theorem cU(h:p:=by unfold Hid;rw [MU (BS ch) ht.out,hT.out];simp [BS,h0]):p:=h
theorem BG(h:p:=by simp [h1]):p:=h
theorem Rs(h:p:=by unfold Hid;rw [MU (Bb ch) ht.out,hU.out];simp [Bb,h1]):p:=h
theorem cX(h:p:=by rw [ho.out];try omega):p:=h
theorem ce(h:p:=by rw [hi.out];try omega):p:=h
theorem cm(h:p:=by unfold Hid;rw [← hT.out,show k=m from by omega,List.take_of_length_le (l:=b.htlcs) (by have:=HM.out;omega)]):p:=h
theorem A5J(h:p:=by unfold Hid;rw [← hU.out,show k=m from by omega,List.take_of_length_le (l:=b.htlcs) (by have:=HM.out;omega)]):p:=h
theorem cw(h:p:=by unfold Hid BJ;rw [hTT.out,← hT2.out,show k=q from by omega,List.take_of_length_le (l:=b.circles) (by have:=HQ.out;omega)]):p:=h
theorem dA(h:p:=by unfold Hid BU;rw [hUU.out,← hU2.out,show k=q from by omega,List.take_of_length_le (l:=b.circles) (by have:=HQ.out;omega)]):p:=h
theorem dB(h:p:=by unfold Hid;rw [MU (CY ch) ht.out,hT2.out];simp [CY,h0]):p:=h
theorem Rt(h:p:=by unfold Hid;rw [MU (Bu ch) ht.out,hU2.out];simp [Bu,h1]):p:=h
theorem Zt(h:p:=by first | rfl | skip<;>(try simp only [BI,Ad,decide_eq_true_eq,decide_eq_false_iff_not] at *);first | rfl | exact tt oM | exact ff oM | exact dd oM | (rw [Bool.eq_iff_iff];simp;omega)):p:=h
theorem KF(h:p:=by rw [hr.out]<;>first | omega | (unfold Pm;omega) | (rw [if_neg oM,if_pos oM]) | (rw [if_neg oM,if_neg oM];omega) | (rw [if_pos oM])):p:=h
theorem A5K(h:p:=by rw [HhT0.out,HhT1.out,HhT2.out,HhT3.out,decide_eq_false oM];simp):p:=h
theorem A5L(h:p:=by unfold Hid Cz;rw [if_neg (by rw [HhT0.out,HhT1.out,HhT2.out,HhT3.out,decide_eq_true oM];simp),if_pos oM]):p:=h
theorem A5M(h:p:=by unfold Hid Cz;rw [if_neg (by rw [HhT0.out,HhT1.out,HhT2.out,HhT3.out,decide_eq_true oM];simp),if_neg oM,if_neg oM]):p:=h
theorem Ru(h:p:=by rw [hres.out];rfl):p:=h
theorem A5N(h:p:=by unfold Hid Cz;rw [if_neg (by rw [HhT0.out,HhT1.out,HhT2.out,HhT3.out,decide_eq_true oM];simp),if_neg oM,if_pos oM]):p:=h
theorem A5O(h:p:=by have:=(List.getElem?_eq_some_iff.1 hy).1;rw [List.length_take] at this;omega):p:=h
theorem Nk(h:p:=by rw [hE2,List.length_append];rfl):p:=h
theorem dD(h:p:=by have:=hall.out;unfold Hid;rwa [show k=m from by omega,List.take_of_length_le (l:=b.htlcs) (by have:=HM.out;omega)] at this):p:=h
theorem A5P(h:p:=by have:=hKK.out;unfold Hid;rwa [show k=m from by omega,List.take_of_length_le (l:=b.htlcs) (by have:=HM.out;omega)] at this):p:=h
theorem dE(h:p:=by unfold Hid A1;rw [← hKK.out,List.take_of_length_le (l:=b.circles) (by have:=HQ.out;omega)]):p:=h
theorem dF(h:p:=by have:=hall.out;unfold Hid;rwa [show k=q from by omega,List.take_of_length_le (l:=b.circles) (by have:=HQ.out;omega)] at this):p:=h
theorem KG(h:p:=by have:=HQ.out;omega):p:=h
theorem dG(h:p:=by unfold Hid;rw [YK _ ht.out,← List.append_assoc,hKK.out]):p:=h
theorem Cb(h:p:=by have:=HN.out;omega):p:=h
theorem Li(h:p:=by simp [hsum]):p:=h
theorem A5Q(h:p:=by simp only [];rw [← HOO.out,← HII.out];exact hsum):p:=h
theorem dH(h:p:=by simp only [];rw [← HOO.out,← HII.out];omega):p:=h
theorem A5R(h:p:=by have:=vo hpx.out Hj.out hp;subst this;simp only [];omega):p:=h
theorem Rv(h:p:=by rw [← HN.out,← HM.out,e]):p:=h
theorem dJ(h:p:=by have:=htk.out;rwa [show k=n from by omega] at this):p:=h
theorem A5S(h:p:=by unfold Hid;rw [htx.out,hty.out,htk.out]):p:=h
theorem KH(h:p:=by simp [hno.out]):p:=h
theorem Cs(h:p:=by simp [h2]):p:=h
theorem Fo(h:p:=by simp [h3]):p:=h
theorem Fp(h:p:=by simp [h4]):p:=h
theorem Gp(h:p:=by simp [h5]):p:=h
theorem Gq(h:p:=by simp [h6]):p:=h
theorem A5T(h:p:=by cases x;cases y;simp_all):p:=h
theorem Rw(h:p:=by unfold Hid;have h1:=htx.out;have h2:=hty.out;dsimp only at h1 h2;rw [h1,h2,htk.out]):p:=h
theorem A5U(h:p:=by have:=htk.out;rwa [show k=n1 from by omega] at this):p:=h
theorem A5V(h:p:=by have:=htk.out;rwa [show k=m1 from by omega] at this):p:=h
theorem dK(h:p:=by have:=htk.out;rwa [show k=q1 from by omega] at this):p:=h
theorem EJ(h:p:=by rw [e];rfl):p:=h
theorem A5W(h:p:=by rw [World.cell?_of_block (w:=w) (a:=⟨b,0+j,none⟩) hk];exact h.at_ j v hj):p:=h
theorem dL(h:p:=by unfold Hid;rw [XS,HN.out,decide_eq_true h.1,decide_eq_true h.2.1,decide_eq_true h.2.2];rfl):p:=h
theorem Nl(h:p:=by rw [hy.out]<;>(try (simp;omega))):p:=h
theorem A5X(h:p:=by unfold Hid;rw [xt,decide_eq_true ⟨by omega,by omega⟩,decide_eq_true ⟨by omega,by omega⟩,decide_eq_true h4];rfl):p:=h
theorem La(h:p:=by simp [Region.wanted,hgd]):p:=h
theorem dM(h:p:=by first | exact U8 _ _ _ | (rw [← hlv];exact U8 _ _ _)):p:=h
theorem JN(h:p:=by simp at hk;omega):p:=h
theorem Nm(h:p:=by rw [HB7.out];exact h7):p:=h
theorem Rx(h:p:=by simp only [results,Tryz.results296];go_simp;rfl):p:=h
theorem KI(h:p:=by have:=H128.out;omega):p:=h
theorem Ry(h:p:=by simp only [] at hs2;omega):p:=h
theorem Rz(h:p:=by simp only [] at hs3;omega):p:=h
theorem R1(h:p:=by simp only [] at hs4;omega):p:=h
theorem A5Y(h:p:=by rw [hSB];exact XY _ (by have:=HBL.out;show bd.length≤100;omega)):p:=h
theorem R6(h:p:=by rw [hS1,hS2,Ml,Ml];simp [heq]):p:=h
theorem dN(h:p:=by rw [HS.out,← hSB];exact heq):p:=h
theorem dP(h:p:=by rw [hS1,hS2,Ml,Ml,heq];simp):p:=h
theorem GJ(h:p:=by show w.heap.size≤bs;omega):p:=h
theorem EM(h:p:=by exact Nat.succ_lt_succ (Nat.zero_lt_succ _)):p:=h
theorem dQ(h:p:=by simp only [results,Tryz.results218];go_simp;rfl):p:=h
theorem dR(h:p:=by exact Nat.succ_lt_succ (Nat.succ_lt_succ (Nat.zero_lt_succ _))):p:=h
theorem Ig(h:p:=by rw [hc0 _ _ sM];simp [go_sem]):p:=h
theorem R7(h:p:=by rw [hr.out];rfl):p:=h
theorem Np(h:p:=by first | omega | (simp_all<;>omega)):p:=h
theorem aD(h:p:=by simp only [results,Tryz.results180];go_simp;rfl):p:=h
theorem aE(h:p:=by simp only [results,Tryz.results159];go_simp;rfl):p:=h
theorem dS(h:p:=by have:=Hl4.out;omega):p:=h
theorem dT(h:p:=by unfold Hid;rw [hbody.out,hR];rfl):p:=h
theorem dU(h:p:=by rw [← hR2.out];exact O7):p:=h
theorem dV(h:p:=by simp only [results,Tryz.results129];go_simp;rfl):p:=h
theorem JR(h:p:=by simpa using l1):p:=h
theorem dW(h:p:=by rw [(HE h22).out,← hSB];exact heq):p:=h
theorem dX(h:p:=by simp only [results,Tryz.results121];go_simp;rfl):p:=h
theorem EK(h:p:=by simp [h]):p:=h
theorem dY(h:p:=by simp only [results,Tryz.results118];go_simp;rfl):p:=h
theorem dZ(h:p:=by rw [hend.out]):p:=h
theorem da(h:p:=by rw [hend.out];exact HO.le oM):p:=h
theorem Nf(h:p:=by rw [HN.out];exact hlt):p:=h
theorem KD(h:p:=by unfold AE;simp only [];omega):p:=h
theorem aI(h:p:=by rw [JB bq oM];exact f0):p:=h
theorem aJ(h:p:=by have:=Aj w1;have:=B1.size;exact Nat.le_trans oM (Aj _ _)):p:=h
theorem aK(h:p:=by rw [b16.cell (p:=⟨ob,0,none⟩) hoB];exact c1):p:=h
theorem aL(h:p:=by rw [b16.frozen (p:=⟨ob,0,none⟩) hoB];exact f1):p:=h
theorem aM(h:p:=by rw [EA];exact List.mem_append_left _ hb):p:=h
theorem aN(h:p:=by rw [World.frozen?_setCell];exact f6'):p:=h
theorem A5Z(h:p:=by have:=(HO6.out.lt b hb).1;simp at hm;omega):p:=h
theorem A5a(h:p:=by simp only [results,Tryz.results223];go_simp;rfl):p:=h
theorem A5b(h:p:=by unfold Hid;rw [hev.out,HEE.out,List.take_of_length_le (by have:=HS.out;omega)]):p:=h
theorem A5c(h:p:=by rw [hend.out];exact (RwO.mk' (ok:=Ev.ok) ho (by rw [← hend.out];exact zW d)).le oM):p:=h
theorem Ek(h:p:=by simp [hz]):p:=h
theorem Lc(h:p:=by unfold Hid;intro e;cases e):p:=h
theorem Nq(h:p:=by simp only [Bool.toNat_true,Bool.toNat_false];omega):p:=h
theorem A5d(h:p:=by have:=(AC.blk ho6 b hb).1;omega):p:=h
theorem db(h:p:=by rw [e];simp):p:=h
theorem Le(h:p:=by rw [beq_eq_false_iff_ne];omega):p:=h
theorem Nr(h:p:=by first | exact VB2 | (rw [Nat.add_sub_cancel];exact VB2)):p:=h
theorem KJ(h:p:=by (try simp only [List.length_cons,List.length_nil] at *);omega):p:=h
theorem Ns(h:p:=by first | exact VA2 | (rw [Nat.add_sub_cancel];exact VA2)):p:=h
theorem dc(h:p:=by simp only [results,Tryz.results84];go_simp;rfl):p:=h
theorem de(h:p:=by rw [hres.out];exact ⟨[],⟨AC.nil _ _,by simp [Lg.zero],rfl⟩,rfl,by simp,by unfold AE;decide⟩):p:=h
theorem Lj(h:p:=by have:=HLE.out;omega):p:=h
theorem Nt(h:p:=by unfold AE;omega):p:=h
theorem R8(h:p:=by simp only [results,Tryz.results77];go_simp;rfl):p:=h
theorem JS(h:p:=by first | (simp;done) | (simp;omega)):p:=h
theorem Nu(h:p:=by simp at hm;subst hm;exact TB8.ne o8 dC hk):p:=h
theorem Nv(h:p:=by show w.heap.size≤rb;omega):p:=h
theorem Nw(h:p:=by show w.heap.size≤w.heap.size+1;omega):p:=h
theorem Gr(h:p:=by rw [hZ];exact hs):p:=h
theorem R9(h:p:=by simpa using o):p:=h
theorem SA(h:p:=by show w.heap.size≤w.heap.size;omega):p:=h
theorem A5e(h:p:=by intro v hv;simp only [List.mem_cons,List.not_mem_nil,or_false] at hv;rcases hv with rfl | rfl | rfl | rfl | rfl | rfl<;>rfl):p:=h
theorem A5f(h:p:=by have:=(r1.lt k hk).1;simp only [List.mem_cons,List.not_mem_nil,or_false] at hm;omega):p:=h
theorem A5g(h:p:=by have:=(r2.lt k hk).1;simp only [List.mem_cons,List.not_mem_nil,or_false] at hm;omega):p:=h
theorem A5h(h:p:=by have:=(r3.lt k hk).1;simp only [List.mem_cons,List.not_mem_nil,or_false] at hm;omega):p:=h
theorem dg(h:p:=by have:=hall.out;rwa [show k=m from by omega,List.take_of_length_le (l:=b.htlcs) (by have:=HM.out;omega)] at this):p:=h
theorem Ri(h:p:=by simp [h1,h2]):p:=h
theorem ak(h:p:=by simp at hm;rw [← hm];exact List.mem_append_left _ hk):p:=h
theorem SD(h:p:=by rw [hk.out];exact H):p:=h
theorem bB(h:p:=by simp at hk;simp [hk]):p:=h
theorem Rc(h:p:=by simp at hm;rw [← hm];exact hk):p:=h
theorem KE(h:p:=by simpa using hlt):p:=h
theorem Dj(h:p:=by simp [hk]):p:=h
theorem EN(h:p:=by simp [e]):p:=h
theorem A5i(h:p:=by simp at hm;rw [← hm];exact hH k hk):p:=h
theorem Gs(h:p:=by simp [hm]):p:=h
theorem A5j(h:p:=by simp;simp [hk]):p:=h
theorem Lf(h:p:=by simp [hn]):p:=h
theorem Gm(h:p:=by simp [hq]):p:=h
theorem Gk(h:p:=by rw [o.1];simp):p:=h
theorem Gl(h:p:=by unfold AE;decide):p:=h
theorem Gn(h:p:=by dsimp only;omega):p:=h
theorem A5k(h:p:=by unfold Hid;rw [← hpf.out,List.take_of_length_le (by have:=HN.out;omega)]):p:=h
theorem SE(h:p:=by have:=(O.lt _ hm).1;omega):p:=h
theorem dh(h:p:=by have:=(O6.lt _ hm).1;omega):p:=h
theorem A5l(h:p:=by unfold Hid;rw [hgo.out,hpf.out];unfold MQ;rw [if_pos (by rw [← HCD.out];exact h0),← HL6.out]):p:=h
theorem dj(h:p:=by show _≤ob;omega):p:=h
theorem A5m(h:p:=by unfold Hid;rw [hgo.out,hpf.out];unfold MQ;rw [if_neg (by rw [← HCD.out];exact h0)]):p:=h
theorem SF(h:p:=by simp only [results,Tryz.results81];go_simp;rfl):p:=h
theorem dm(h:p:=by rw [wM];exact hi):p:=h
theorem SG(h:p:=by have:=HN2.out;omega):p:=h
theorem A5n(h:p:=by rw [hL1,List.length_take];omega):p:=h
theorem dp(h:p:=by rw [hL2,List.length_drop];omega):p:=h
theorem A5o(h:p:=by rw [hL1,hL2];exact HCUT.out):p:=h
theorem SH(h:p:=by first | exact Nat.le_refl _ | (simp;done)):p:=h
theorem dt(h:p:=by first | exact o8 | exact AC.drew o8 | exact AC.drewN o8 _):p:=h
theorem Nx(h:p:=by intro hlt;rw [if_neg oM];simp):p:=h
theorem du(h:p:=by first | exact Nat.le_refl _ | exact B8.size | (simp;exact B8.size)):p:=h
theorem dw(h:p:=by have:=H2x.lt;omega):p:=h
theorem SI(h:p:=by rw [← HLL.out];exact HOK.out):p:=h
theorem A5p(h:p:=by (simp at hxe;omega)):p:=h
theorem A5q(h:p:=by rw [← aid];exact ack.id):p:=h
theorem A5r(h:p:=by rw [← did];exact dck.id):p:=h
theorem FJ(h:p:=by simp [Cn.enc,AO]):p:=h
theorem Ny(h:p:=by rw [did];exact hne.symm):p:=h
theorem Nz(h:p:=by show a.id≠q2;rw [aid];exact hne):p:=h
theorem N0(h:p:=by have:=ack.score;omega):p:=h
theorem KL(h:p:=by unfold CE AH Ad;simp;omega):p:=h
theorem Ct(h:p:=by unfold AE;dsimp only;omega):p:=h
theorem BM(h:p:=by rfl):p:=h
theorem dy(h:p:=by first | exact AC.alloc (w:=w7.drew) (AC.drew OR) _ | exact AC.alloc (AC.drewN OR _) _ | exact AC.alloc OR _):p:=h
theorem N1(h:p:=by have:=HNR.out;omega):p:=h
theorem dz(h:p:=by first | exact Nat.le_trans hBw (Aj _ _) | (simp;omega)):p:=h
theorem A5s(h:p:=by (rcases f8 k (by simpa using hk) with h | h);exact Or.inl (by simpa using h);exact Or.inr (by first | omega | (simp at h;omega))):p:=h
theorem N2(h:p:=by simp [Cn.enc,AO];try omega):p:=h
theorem bV(h:p:=by have:=hs.out;rwa [show k=m from by omega,List.take_of_length_le (l:=b.htlcs) (by have:=HM.out;omega)] at this):p:=h
theorem KM(h:p:=by unfold Hid;rw [hgo];simp [Pw,h1]):p:=h
theorem N4(h:p:=by have:=HL1.out;omega):p:=h
theorem d8(h:p:=by have:=HML.out;omega):p:=h
theorem KN(h:p:=by have:=H5.lt;omega):p:=h
theorem Dw(h:p:=by rw [hc];dsimp only;rw [hh];rfl):p:=h
theorem SJ(h:p:=by rw [hcd];exact H'):p:=h
theorem A5t(h:p:=by rw [hcd] at e;cases e):p:=h
theorem d9(h:p:=by have:=hb.n20;omega):p:=h
theorem eB(h:p:=by have:=hb.pk.h60;omega):p:=h
theorem eC(h:p:=by have:=hb.pk.c20;omega):p:=h
theorem A5u(h:p:=by have:=b8.size;omega):p:=h
theorem eE(h:p:=by simpa using K.nd):p:=h
theorem eF(h:p:=by have:=(K.lt _ (by simpa using hm)).2;omega):p:=h
theorem eG(h:p:=by rw [← HCD.out];exact H0.out):p:=h
theorem eH(h:p:=by rw [← HCD.out]):p:=h
theorem A5v(h:p:=by rw [hl] at hnl;first | (simpa using hnl) | (simpa using hnl.symm)):p:=h
theorem A5w(h:p:=by rw [A0R hb hgd HCD.out.symm (by rw [← HD2.out];exact hl),← HD1.out]):p:=h
theorem GK(h:p:=by go_keep):p:=h
theorem A5x(h:p:=by rw [HD1.out];exact wU _ _):p:=h
theorem eI(h:p:=by rw [tr hb hgd HCD.out.symm (by rw [← HD2.out];exact hl),← HD1.out,← HD2.out,hnx]):p:=h
theorem eJ(h:p:=by rw [hnx];exact ⟨hbn.1,hbl⟩):p:=h
theorem A5y(h:p:=by unfold Hid;unfold Bo;rw [if_neg (by rw [(Gc b).2 hb];simp)]):p:=h
theorem A5z(h:p:=by unfold Hid;rw [hres.out,← hS.out,XZ (by have:=HN.out;omega)]):p:=h
theorem SK(h:p:=by rw [hwS];exact MR sM _ _ _ _ (Ex.refl _ _)):p:=h
theorem eK(h:p:=by have:=(AC.blk cs6 _ hm).2;omega):p:=h
theorem eL(h:p:=by have:=(ps6.lt _ (by rw [EA];exact List.mem_append_left _ hm)).2;omega):p:=h
theorem eN(h:p:=by have h1:=bA.size;have h2:=bX.size;omega):p:=h
theorem A50(h:p:=by unfold Hid;rw [hgo.out,hS.out,yy (by dsimp only;rw [HR.out];exact h0)];dsimp only;rw [HR.out]):p:=h
theorem eO(h:p:=by unfold Hid;rw [hgo.out,hS.out,XP (by dsimp only;rw [HR.out])];dsimp only;rw [HR.out];dsimp only;rw [if_pos h1]):p:=h
theorem eP(h:p:=by unfold Hid;rw [hgo.out,hS.out,XP (by dsimp only;rw [HR.out])];dsimp only;rw [HR.out];dsimp only;rw [if_neg h1]):p:=h
theorem eQ(h:p:=by have:=(O3.lt _ hm).1;omega):p:=h
theorem eR(h:p:=by have:=(OL.lt _ hm).1;omega):p:=h
theorem A51(h:p:=by simp only [results,Tryz.results126];go_simp;rfl):p:=h
theorem A52(h:p:=by unfold Hid Bj;rw [show Bq l=false from hl];rfl):p:=h
theorem Rj(h:p:=by unfold Hid Bj;rw [HL.out,ha];rfl):p:=h
theorem A53(h:p:=by unfold Hid;rw [hbal.out];exact vE (by have:=hall.out;rwa [show k=n from by omega,List.take_of_length_le (by have:=HN.out;omega)] at this)):p:=h
theorem A54(h:p:=by unfold Hid;rw [hbal.out];exact zg hall.out hx.out h1 h2):p:=h
theorem SL(h:p:=by first | (rw [hno.out];done) | (rw [hno.out];rfl)):p:=h
theorem A55(h:p:=by unfold Hid;rw [← HRN.out];exact of_decide_eq_true hT3):p:=h
theorem eS(h:p:=by rcases List.mem_append.1 hx with hx | hx;exact VX.sent.oks x hx;exact VX.wait.oks x hx):p:=h
theorem GL(h:p:=by trivial):p:=h
theorem A56(h:p:=by first | (rw [hfin.out];done) | (rw [hfin.out];rfl)):p:=h
theorem KO(h:p:=by first | (rw [hres.out];done) | (rw [hres.out];rfl)):p:=h
theorem SM(h:p:=by have:=Bc2;exact AD this BX):p:=h
theorem N5(h:p:=by simp only [results,Tryz.results74];go_simp;rfl):p:=h
theorem SN(h:p:=by unfold Hid;simp [Value.ownBlock];omega):p:=h
theorem eT(h:p:=by have:=hKK.out;unfold Hid;rwa [List.take_of_length_le (by have:=HM.out;omega)] at this):p:=h
theorem Ih(h:p:=by simp [hkx]):p:=h
theorem SO(h:p:=by unfold Hid;rw [zn ht.out (by simp [hkx]),hE2,← hKK.out]):p:=h
theorem eU(h:p:=by unfold Hid;rw [tx ht.out (by simp [hkx])];exact hsel.out):p:=h
theorem N7(h:p:=by simpa using hm):p:=h
theorem SP(h:p:=by unfold Hid;rw [za ht.out (by simp [hkx])];exact hKK.out):p:=h
theorem eV(h:p:=by have:=hnb y hy;simp;rw [← hkx];exact this):p:=h
theorem N8(h:p:=by simp only [World.setCells];exact LB):p:=h
theorem eW(h:p:=by simp at hm;subst hm;exact hk):p:=h
theorem eX(h:p:=by have:=hB5.size;omega):p:=h
theorem A57(h:p:=by rw [HLF.out] at hy;exact OKV y (List.mem_filter.1 hy).1):p:=h
theorem A58(h:p:=by have:=H.lt;omega):p:=h
theorem Ii(h:p:=by unfold AE;dsimp only;rw [aget];omega):p:=h
theorem FT(h:p:=by unfold AE;dsimp only;rw [dget2];omega):p:=h
theorem Fr(h:p:=by rw [HCD.out];rfl):p:=h
theorem eY(h:p:=by rw [HCD.out];exact ⟨FC.1,(Wf.of_below BD).trans FC.2⟩):p:=h
theorem SQ(h:p:=by rw [HCD.out];exact ⟨FC.1,(Wf.of_below Bc1).trans FC.2⟩):p:=h
theorem eZ(h:p:=by unfold Hid;rw [HC.out];rw [HB1.out,HH.out,E21.out,ew];rfl):p:=h
theorem SR(h:p:=by rw [hE2,List.length_append];simp;omega):p:=h
theorem N9(h:p:=by rw [HCX.out];rfl):p:=h
theorem A59(h:p:=by rw [HCX.out];exact ⟨FC.1,(Wf.of_below Bc1).trans FC.2⟩):p:=h
theorem ea(h:p:=by rw [HCX.out];exact ⟨FC.1,(Wf.of_below Bc2).trans FC.2⟩):p:=h
theorem OA(h:p:=by unfold Hid;rw [HC1.out];rw [E21.out];rfl):p:=h
theorem A6A(h:p:=by rw [HCX.out];exact ⟨Hc2,Wf.of_below Bc2⟩):p:=h
theorem OB(h:p:=by unfold AE;dsimp only;rw [← HA.out];omega):p:=h
theorem eb(h:p:=by unfold Hid;rw [HC1.out];cases decide (60≤b.htlcs.length)<;>cases tw<;>rfl):p:=h
theorem ec(h:p:=by unfold Hid;rw [HC1.out];cases decide (60≤b.htlcs.length)<;>rfl):p:=h
theorem A6B(h:p:=by have:=HM.out;have:=hb.pk.h60;omega):p:=h
theorem A6C(h:p:=by simpa using (Hc1.at ai HAid.out hso).1 0 _ rfl):p:=h
theorem A6D(h:p:=by simpa using (Hc1.at di HDid.out hso).1 0 _ rfl):p:=h
theorem ed(h:p:=by unfold Hid;rw [HC3.out];cases decide (rv=0)<;>cases decide (D.loc<am)<;>cases decide (A.rem<am+fv)<;>rfl):p:=h
theorem A6E(h:p:=by rw [HCD.out];exact ⟨FC.1,FC.2⟩):p:=h
theorem A6F(h:p:=by unfold Hid;rw [HC3.out];rw [e11];cases decide (rv=0)<;>cases decide (D.loc<am)<;>rfl):p:=h
theorem A6G(h:p:=by unfold Hid;rw [HC3.out];rw [e11,e12];cases decide (rv=0)<;>rfl):p:=h
theorem ee(h:p:=by unfold Hid;rw [HC3.out];rw [E13.out,e11,e12];rfl):p:=h
theorem cO(h:p:=by have:=(List.getElem?_eq_some_iff.1 hy).1;simp at this;omega):p:=h
theorem SU(h:p:=by unfold Hid;unfold G8;rw [hw,hup];rfl):p:=h
theorem OC(h:p:=by
 have A6H:=trivial;exact OD):p:=h
theorem A6I(h:p:=by
 refine II (S:=fun w'=>w'.cell? ⟨g,0,none⟩=.some b.tick∧w'.cell? ⟨g,1,none⟩=.some b.next∧w'.cell? ⟨g,2,none⟩=.some b.wallet∧w'.cell? ⟨g,3,none⟩=some (.slice (some ⟨gx,0,none⟩) n cx)∧w'.cell? ⟨g,4,none⟩=some (.slice ay m cy)∧w'.cell? ⟨g,5,none⟩=some (.slice az q cz)∧w'.cell? ⟨ue,3,none⟩=.some tt∧w'.cell? ⟨gx,jd*7,none⟩=.some D.id∧w'.cell? ⟨gx,jd*7+1,none⟩=.some D.size∧w'.cell? ⟨gx,jd*7+2,none⟩=.some D.loc∧w'.cell? ⟨gx,jd*7+3,none⟩=.some D.rem∧w'.cell? ⟨gx,jd*7+4,none⟩=.some D.base∧w'.cell? ⟨gx,jd*7+5,none⟩=.some D.ppm∧w'.cell? ⟨gx,jd*7+6,none⟩=.some D.score) (last:=15) kR ?_ (fun hHeld => ?_)
 ·exact Bc
 have A6J:=trivial;exact OE):p:=h
theorem A6K(h:p:=by
 refine II (S:=fun w'=>w'.cell? ⟨g,0,none⟩=.some b.tick∧w'.cell? ⟨g,1,none⟩=.some b.next∧w'.cell? ⟨g,2,none⟩=.some b.wallet∧w'.cell? ⟨g,3,none⟩=some (.slice (some ⟨gx,0,none⟩) n cx)∧w'.cell? ⟨g,4,none⟩=some (.slice ay m cy)∧w'.cell? ⟨g,5,none⟩=some (.slice az q cz)∧w'.cell? ⟨ue,2,none⟩=.some ch∧w'.cell? ⟨gx,ia*7,none⟩=.some A.id∧w'.cell? ⟨gx,ia*7+1,none⟩=.some A.size∧w'.cell? ⟨gx,ia*7+2,none⟩=.some A.loc∧w'.cell? ⟨gx,ia*7+3,none⟩=.some A.rem∧w'.cell? ⟨gx,ia*7+4,none⟩=.some A.base∧w'.cell? ⟨gx,ia*7+5,none⟩=.some A.ppm∧w'.cell? ⟨gx,ia*7+6,none⟩=.some A.score) (last:=15) kR ?_ (fun hHeld => ?_)
 ·exact Bc
 exact OE):p:=h
theorem A6L(h:p:=by
 obtain ⟨u2,rfl,hu2,U2,b9⟩:=hcut;obtain ⟨w8',hw8⟩:∃ x,x=wc:=⟨_,rfl⟩;subst hw8
 have n2:u2∉g :: F7:=fun hm=>by
  obtain ⟨t1,t2,t3⟩:=H7.lt;rcases List.mem_cons.1 hm with e | hm
  ·omega
  have:=(t3 _ hm).2;omega
 have A6M:=trivial;exact ef):p:=h
theorem eg(h:p:=by
 have A6N:=trivial;exact OD):p:=h
theorem cH(h:p:=by
 subst hk0;have hcode:=WH (b:=b) (e:=⟨5,ky,ch,tt,am,fe,ys⟩) ho rfl;unfold Dn;generalize AQ b ⟨5,ky,ch,tt,am,fe,ys⟩=cd at hcode hpart2 ⊢;exact OG):p:=h
theorem cE(h:p:=by
 have A6O:=trivial;exact eh):p:=h
theorem cG(h:p:=by
 have A6P:=trivial;exact ei):p:=h
theorem Rf(h:p:=by
 have A6Q:=trivial;exact SW):p:=h
theorem ej(h:p:=by
 have A6R:=trivial;exact ek):p:=h
theorem el(h:p:=by
 go_wp2_with fail
 refine CA.mono ?_;rintro e w6 ⟨F6,G6,x',y',z',l',rfl,O6,N6,hnd,b6⟩;obtain ⟨⟨a7,n7,k7,rfl⟩,⟨a8,n8,k8,rfl⟩,⟨a9,n9,k9,rfl⟩⟩:=O6.form;obtain ⟨al,kl,rfl,-⟩:=AC.of (ok:=fun _=>True) N6.own (fun _ _=>trivial);have hbd:=Xf bk ⟨kd,ky,ch,tt,am,fe,ys⟩;have HPI:=lH (xX (e:=⟨kd,ky,ch,tt,am,fe,ys⟩) hbok);have hid:=A1e (e:=⟨kd,ky,ch,tt,am,fe,ys⟩) hbok;obtain ⟨R,hR⟩:∃ R,R=Aq bk ⟨kd,ky,ch,tt,am,fe,ys⟩:=⟨_,rfl⟩;rw [← hR] at O6 N6 hbd hid HPI ⊢;obtain ⟨cd,b2,⟨pi,pl⟩⟩:=R;dsimp only at O6 N6 hbd hid HPI ⊢;obtain ⟨nl,hnl⟩:∃ n,n=pl.length:=⟨_,rfl⟩;rw [← hnl] at N6 ⊢;have HR:=lH hR.symm;have HNL:=lH hnl;have HID:=lH hid;obtain ⟨hcd0,hcd1⟩:=hbd;have Q6:=Q5.keep b6;have O5:=O5.keep b6;have hFs:∀ k∈A5 (.slice ap ps.length cp :: us),k<w5.heap.size:=fun k hk=>(ps5.lt k hk).2;have ps6:=ps5.keep b6;have cs6:=cs5.keep b6;have hB6:Below ob w4 w6:=hB5.trans (b6.mono oM);have hF6:ob∉F6:=fun hm=>dh;have hz6:=b6.size;clear CA hR hnl hid q0 q1 q2 q3 q4 q5 p0 p1 p2 p3 p4 p5 p6 P5 Q5 ps5 cs5 hB5;go_upto_region 10 with fail
 refine cJ fun w7 P12 b7 hz7 => ?_;refine cV hz7 fun w8 P13 b8 => ?_;have P12:=P12.keep b8;have b68:=AD b8 b7;have hz8:=b68.size;have Q8:=Q6.keep b68;have Oo:=O5.keep b68;have On:=O6.keep b68;have Nn:=N6.keep b68;have psn:=ps6.keep b68;have csn:=cs6.keep b68;have hBn:Below ob w4 w8:=hB6.trans (b68.mono oM);have hc12:w6.heap.size∉(Value.slice ac cs.length cc).ownBlock.toList:=fun hm=>eK;have hc13:w6.heap.size+1∉(Value.slice ac cs.length cc).ownBlock.toList:=fun hm=>eK;have hp12:w6.heap.size∉(Value.slice ap ps.length cp).ownBlock.toList:=fun hm=>eL;have hp13:w6.heap.size+1∉(Value.slice ap ps.length cp).ownBlock.toList:=fun hm=>eL;have hup:∀ k∈(Value.slice al nl kl).ownBlock.toList,k∉A5 (.slice ap ps.length cp :: us):=fun k hk hm=>by have:=(AC.blk N6.own k hk).1;have:=hFs k hm;omega
 have hG6:ob∉G6:=fun hm=>by have:=(N6.lt _ hm).1;omega
 have hO6b:=O6.lt;clear O5 O6 N6 ps6 cs6 hB6 Q6 b7 b8 b68 hFs hz7 b6;obtain ⟨u12,hu12⟩:∃ n,n=w6.heap.size:=⟨_,rfl⟩;obtain ⟨u13,hu13⟩:∃ n,n=w6.heap.size+1:=⟨_,rfl⟩;have n12:ob<u12:=AA;have n13:ob<u13:=AA;rw [← hu13] at P13 hc13 hp13 ⊢;rw [← hu12] at P12 hc12 hp12 ⊢;have h12z:u12<w8.heap.size:=P12.lt;have h13z:u13<w8.heap.size:=P13.lt;have hn123:u12≠u13:=AA;have hzo:ob+1≤w8.heap.size:=AA;have hwb:g4+1≤w5.heap.size:=AA;clear hu12 hu13
 first
 |clear A6S
  exact eo
 |by_cases h0:cd=0;rotate_left
  ·exact er
  have A6T:=trivial;exact ey):p:=h
theorem ez(h:p:=by
 obtain ⟨ud,rfl,hul,UD,b01⟩:=hcut;obtain ⟨w1,hw1⟩:∃ x,x=wc:=⟨_,rfl⟩;subst hw1;have hude:¬ ud=ue:=AA;have hudg:¬ ud=g:=fun e=>KN
 have nud:ud∉g :: F:=fun hm=>by
  exact fA
 have hudua:¬ ud=ua:=fun e=>by have:=UA.lt;omega
 have H5:=H5.keep b01;have PE:=PE.keep b01;have UA:=UA.keep b01;have WX:=WX.trans (Wf.of_below b01);clear CA V0 P0 b01 hul hueL ds0 ds1 ds2 ds3 ds4 ds5 due3 dk0 dk1 dk2 dk3 dk4 dk5 dk6 BD HD PD D7 DF D_ue;obtain ⟨w0,hw0⟩:∃ x,x=w1:=⟨_,rfl⟩;rw [← hw0] at H5 WX PE UD UA ⊢;clear hw0;have c4:=PE.cell 4 _ rfl;have t4:=UD.cell 4 _ rfl;have t5:=UD.cell 5 _ rfl;go_upto_region 4 with fail
 go_wp2_with fail
 refine (CF _).mono ?_;rintro e w1 ⟨rfl,rfl⟩;go_wp2_with fail
 refine (J4 am fv _).mono ?_;have A6U:=trivial;exact fB):p:=h
theorem SY(h:p:=by
 have A6V:=trivial;exact OH):p:=h
theorem SZ(h:p:=by
 obtain ⟨F7,x7,b7,ls7,H7,W7,hdone⟩:=hcut;have A6W:=trivial;exact Ij):p:=h
theorem fC(h:p:=by
 have A6X:=trivial;exact OJ):p:=h
theorem fD(h:p:=by
 have A6Y:=trivial;exact OJ):p:=h
theorem fE(h:p:=by
 have A6Z:=trivial;exact Lk):p:=h
theorem fF(h:p:=by
 go_wp2_with fail
 refine CP.mono ?_;rintro e w5 ⟨⟨FL,vl,rfl,OL⟩,bx⟩;obtain ⟨al,nl,kl,rfl⟩:=OL.form;have h5z:u5<w4.heap.size:=P5.lt;obtain ⟨pf,hpf⟩:∃ p,p=DQ ps:=⟨_,rfl⟩;rw [← hpf] at OL HR ⊢;clear hpf;obtain ⟨lg,cn⟩:=pf;dsimp only at OL HR ⊢;replace P2:=P2.keep bx;replace P3:=P3.keep bx;replace P5:=P5.keep bx;replace O3:=O3.keep bx;replace V3:=V3.keep bx;replace BX:=AD bx BX;clear bx;clear CP N3;go_upto_region 3 with fail
 refine cW fun w6 P8 bx => ?_;have h58:u5<w5.heap.size:=P5.lt;obtain ⟨u8,hu8⟩:∃ u,u=w5.heap.size:=⟨_,rfl⟩;rw [← hu8] at P8 h58 ⊢;clear hu8;replace P2:=P2.keep bx;replace P3:=P3.keep bx;replace P5:=P5.keep bx;replace O3:=O3.keep bx;replace OL:=OL.keep bx;replace V3:=V3.keep bx;replace BX:=AD bx BX;clear bx;have e52:¬ u5=w.heap.size:=AA;have e53:¬ u5=g3:=AA;have e82:¬ u8=w.heap.size:=AA;have e83:¬ u8=g3:=AA;have e25:¬ w.heap.size=u5:=AA;have e35:¬ g3=u5:=AA;have e28:¬ w.heap.size=u8:=AA;have e38:¬ g3=u8:=AA;have e23:¬ w.heap.size=g3:=AA;have e32:¬ g3=w.heap.size:=AA;have hF2:w.heap.size∉F:=fun hm=>eQ;have hF3:g3∉F:=fun hm=>eQ;have hL2:w.heap.size∉FL:=fun hm=>eR;have hL3:g3∉FL:=fun hm=>eR
 first
 |clear A6a
  have CZ:=fun (w':World) (V':Cm w' w' (.slice ac cs.length cc) cs)=>A0Y (.slice ac cs.length cc) cs w' V';obtain ⟨r1,hr1⟩:∃ r,r=Iu cs:=⟨_,rfl⟩;simp only [← hr1] at CZ;rw [← hr1] at HR;clear hr1
  cases r1 with
  | false =>
   have hres:Hid (BB es=⟨bk,lg,false⟩):=HR;have A6b:=trivial;exact fG
  | true =>
   cases hq:decide (cn=(ps.length:Int))
   ·(have hres:Hid (BB es=⟨bk,lg,false⟩):=by unfold Hid;rw [HR.out,hq];rfl);(have e0:(cn == (ps.length:Int))=false:=by have:=of_decide_eq_false hq;simpa using this);exact fH
   (have hres:Hid (BB es=⟨bk,lg,true⟩):=by unfold Hid;rw [HR.out,hq];rfl);(have e0:(cn == (ps.length:Int))=true:=by have:=of_decide_eq_true hq;simpa using this);exact fH
 |have hcs:cs.length≤1048576:=hbd.out.1;go_wp2;obtain ⟨q0,hq0⟩:∃ q,q=decide (cn=(ps.length:Int)):=⟨_,rfl⟩;have HQ:=lH hq0;clear hq0;obtain ⟨a',n',c',e,-,-,FS_⟩:=V3;have A6c:=trivial;exact DL):p:=h
theorem fI(h:p:=by
 have A6d:=trivial;exact JT):p:=h
theorem fH(h:p:=by
 clear hq;exact fG):p:=h
theorem fJ(h:p:=by
 have A6e:=trivial;exact Ll):p:=h
theorem fK(h:p:=by
 have A6f:=trivial;exact Ll):p:=h
theorem fL(h:p:=by
 have hcA:=HC1.out.symm;rw [h0] at hcA;obtain ⟨r14,hcB⟩:=Bg hcA dC;obtain ⟨r6,-⟩:=Bg hcB dC;have r6:tw=true:=by simpa using r6
 rw [HTW.out,Bool.and_eq_true] at r6;obtain ⟨hc1,hc2⟩:=r6;rw [h0] at H5;subst h0;have e7:((0:Int) != 0)=false:=rfl;obtain ⟨ia,a,ha1,ai,aid,aget,ialt⟩:=EH hc1;obtain ⟨jd,d,hd1,di,did,dget,jdlt⟩:=EH hc2;have eA:A=a:=HA.out.trans aget;have eD:D=d:=HDd.out.trans dget;subst eA;subst eD;have ack:=hb.ck A (List.mem_of_getElem? ai);have dck:=hb.ck D (List.mem_of_getElem? di);have A6g:=trivial;exact fM):p:=h
theorem fN(h:p:=by
 obtain ⟨H5,W2⟩:=hcut;have A6h:=trivial;exact fO):p:=h
theorem aH(h:p:=by
 go_upto_region 3 with fail
 have bq:Below w0 w0 (w0.drewN nq):=C8 (Below.refl _ _);generalize w0.drewN nq=w1 at bq ⊢;have P1:=P0.keep bq;have HO:=HO0.keep bq;have O1:=O0.keep bq;have z1:=bq.size;have c1:=BN bq c0;have f1:w1.frozen? ⟨ob,0,none⟩=false:=aI;have B1:Below w w w1:=b5.trans (bq.mono b5.size);have hob1:ob<w1.heap.size:=AA;obtain ⟨q0,q1,q2⟩:=P1.c3;have ql:=P1.lt;clear HO0 O0 c0 f0 P0 bq;go_wp2_with (at_builtin;refine MT Qi Tryz.underlying156 rfl dC dC Qc rfl _ _ rfl B _ pre us rfl (HO.keep (Ae (Below.refl _ _) _)) _ ⟨k,ep,bd⟩ (.slice a bd.length c) rfl rfl (BC _ _ _ rfl) (by have:=HL.out;omega) aJ dC (AC.alloc O1 _) ⟨KD,hep⟩ (fun _ _=>trivial) hun ?_)
 intro v6 w6 O6 b6 g6;obtain ⟨R,hR⟩:∃ l,l=pre ++ [(⟨k,ep,bd⟩:Sc)]:=⟨_,rfl⟩;rw [← hR] at O6;obtain ⟨a6,c6,rfl,-,-⟩:=O6.form;have b16:Below B w1 w6:=((Ae (Below.refl w1 w1) _).mono (by have:=B1.size;omega)).trans b6;have c6':w6.cell? ⟨ob,0,none⟩=some (.slice ao pre.length co):=aK;have f6':w6.frozen? ⟨ob,0,none⟩=false:=aL;have g16:=Ex.of_grown g6;have x16:Ex ((Value.slice ao pre.length co).ownBlock.toList) w w6:=((Ex.of_below B1 _).trans (Ex.of_below (Ae (Below.refl w1 w1) _) _)).trans g16;have hFb:∀ b∈(Value.slice ao pre.length co).ownBlock.toList,B≤b:=fun b hb=>(HO.lt b aM).1;have hob6:ob<w6.heap.size:=by have:=b16.size;omega
 have HO6:=lH O6;have HR:=lH hR;have HX:=lH x16;have HF:=lH hFb;have hsz:∀ v,(w6.setCell ⟨ob,0,none⟩ v).heap.size=w6.heap.size:=fun v=>AP;clear hR O6 g6 b6 x16 g16 hFb HO O1 P1 q0 q1 q2 c1 f1;go_wp2;go_ret;refine ⟨rfl,_,Vo c6',aN,?_,(ob :: (Value.slice ao pre.length co).ownBlock.toList),?_,?_⟩
 ·exact aO
 ·exact aP
 intro b hb;rcases List.mem_cons.1 hb with h | h
 ·exact .inl h
 exact .inr (HF.out b h)):p:=h
theorem fP(h:p:=by
 have A6i:=trivial;exact JU):p:=h
theorem OD(h:p:=by
 refine wp_region_noPanic ?_;refine wp_region_held_drew (S:=fun w'=>w'.cell? ⟨g,0,none⟩=.some b.tick∧w'.cell? ⟨g,1,none⟩=.some b.next∧w'.cell? ⟨g,2,none⟩=.some b.wallet∧w'.cell? ⟨g,3,none⟩=some (.slice ax n cx)∧w'.cell? ⟨g,4,none⟩=some (.slice ay m cy)∧w'.cell? ⟨g,5,none⟩=some (.slice az q cz)∧w'.cell? ⟨ue,1,none⟩=.some ky∧w'.cell? ⟨ue,2,none⟩=.some ch∧w'.cell? ⟨ue,3,none⟩=.some tt) kR ?_ (fun hHeld => ?_)
 ·exact Bc
 have A6j:=trivial;exact Gt):p:=h
theorem fQ(h:p:=by
 clear hh hq3;exact fR):p:=h
theorem fS(h:p:=by
 have A6k:=trivial;exact JT):p:=h
theorem fT(h:p:=by
 have hql5:=Q5.lt;clear c0 c1 hU Q O b5 hB;go_wp2_with fail
 refine CP.mono ?_;rintro e w6 ⟨⟨F6,v6,rfl,O6⟩,b6⟩;obtain ⟨a6,n6,c6,rfl⟩:=O6.form;have Q6:=Q5.keep b6;have O6':=O5.keep b6;have hB6:Below (w.heap.size+1+1) w4 w6:=hB5.trans (b6.mono oM);have hF6:ob∉F6:=fun hm=>dh;clear CP p0 p1 q0 q1 P5 Q5 O5 hB5;obtain ⟨cd,hcd⟩:∃ c,c=(BV L x).1:=⟨_,rfl⟩;obtain ⟨L6,hL6⟩:∃ c,c=(BV L x).2:=⟨_,rfl⟩;rw [← hL6] at O6;rw [← hcd,← hL6];have HCD:=lH hcd;have HL6:=lH hL6;clear hcd hL6;go_upto_region 9 with fail
 refine cW fun w7 P7 b7 => ?_;obtain ⟨p0,p1⟩:=P7.c2;have Q7:=Q6.keep b7;have O7:=O6.keep b7;have O7':=O6'.keep b7;have hB7:Below (w.heap.size+1+1) w4 w7:=hB6.trans (b7.mono (by have:=b6.size;omega));obtain ⟨q0,q1⟩:=Q7.c2;obtain ⟨y0,y1⟩:=Q7.z2;have hql7:=Q7.lt;have hpl7:=P7.lt;by_cases h0:cd=0
 ·have hnx:Hid (DQ (ps.take (k+1))=(L6,cn+1)):=A5l;have e0:(cd == 0)=true:=A8;clear hgo hpf h0 Q6 O6 O6' hB6 O7' b6 b7;go_wp2;go_roundw
  case rel=>exact ⟨k+1,L6,cn+1,_,F6,AA,Ab,rfl,(Q7.set1 0 _ zS).set1 1 _ EM,((O7.putF hF6).putF hF6).le oM,hF6,hnx,AA,Below.setCell (Below.setCell hB7 dj _) dj _⟩
  case measure=>simp only [intOf];omega
 have hnx:Hid (DQ (ps.take (k+1))=(L,cn)):=A5m;have e0:(cd == 0)=false:=A8;clear hgo hpf h0 Q6 O6 O6' hB6 O7 b6 b7;go_wp2;go_roundw
 case rel=>exact ⟨k+1,L,cn,_,F,AA,Ab,rfl,Q7,O7',hF,hnx,AA,hB7⟩
 case measure=>simp only [intOf];omega):p:=h
theorem fU(h:p:=by
 have A6l:=trivial;exact Sa):p:=h
theorem fV(h:p:=by
 obtain ⟨ua,rfl,hul,UA,b01⟩:=hcut;obtain ⟨w1,hw1⟩:∃ x,x=wc:=⟨_,rfl⟩;subst hw1;have huae:¬ ua=ue:=AA;have huag:¬ ua=g:=fun e=>KN
 have nua:ua∉g :: F:=fun hm=>by
  exact fA
 have H5:=H5.keep b01;have PE:=PE.keep b01;have WX:=WX.trans (Wf.of_below b01);clear CA V0 P0 b01 hul hueL ds0 ds1 ds2 ds3 ds4 ds5 due2 dk0 dk1 dk2 dk3 dk4 dk5 dk6 BD HD PD D7 DF D_ue;obtain ⟨w0,hw0⟩:∃ x,x=w1:=⟨_,rfl⟩;rw [← hw0] at H5 WX PE UA  ⊢;clear hw0;go_upto_region 3 with fail
 have A6m:=trivial;exact Sb):p:=h
theorem fW(h:p:=by
 rintro e w1 ⟨rfl,b1'⟩;rw [hok.out];have P1:=P0.keep b1';have B1:=AD b1' B0;have hP1:=P1.lt;clear p0 p1 p2 p3 p4 p5 p6 b1' P0 B0 hok;obtain ⟨bk,hbk⟩:∃ x,x=UInt8.ofNat kd:=⟨_,rfl⟩;obtain ⟨bc,hbc⟩:∃ x,x=UInt8.ofNat ch:=⟨_,rfl⟩;obtain ⟨bt,hbt⟩:∃ x,x=UInt8.ofNat tt:=⟨_,rfl⟩;have E1:Hid ((kd:Int)=(bk.toNat:Int)):=by unfold Hid;have h:=QR kd;rw [← hbk] at h;omega
 have E2:Hid ((ch:Int)=(bc.toNat:Int)):=by unfold Hid;have h:=QR ch;rw [← hbc] at h;omega
 have E3:Hid ((tt:Int)=(bt.toNat:Int)):=by unfold Hid;have h:=QR tt;rw [← hbt] at h;omega
 rw [← hbk,← hbc,← hbt] at hbody;obtain ⟨L1,hL1⟩:∃ l,l = [69,bk] ++ be ky 3:=⟨_,rfl⟩;have hl1:L1.length=5:=by rw [hL1];simp [D1]
 rw [← hL1] at hbody;obtain ⟨L2,hL2⟩:∃ l,l=L1 ++ [bc,bt]:=⟨_,rfl⟩;have hl2:L2.length=7:=by rw [hL2,List.length_append,hl1];rfl
 rw [← hL2] at hbody;obtain ⟨L3,hL3⟩:∃ l,l=L2 ++ be am 7:=⟨_,rfl⟩;have hl3:L3.length=14:=by rw [hL3,List.length_append,hl2,D1]
 rw [← hL3] at hbody;obtain ⟨L4,hL4⟩:∃ l,l=L3 ++ be fe 7:=⟨_,rfl⟩;have hl4:L4.length=21:=by rw [hL4,List.length_append,hl3,D1]
 rw [← hL4] at hbody;have HL1:=lH hL1;have HL2:=lH hL2;have HL3:=lH hL3;have HL4:=lH hL4;have Hl1:=lH hl1;have Hl2:=lH hl2;have Hl3:=lH hl3;have Hl4:=lH hl4;clear hbk hbc hbt hL1 hL2 hL3 hL4 hl1 hl2 hl3 hl4;have e2:IntKind.u8.wrap (ch:Int)=(bc.toNat:Int):=by rw [IntKind.wrap_u8];have:=E2.out;omega
 have e3:IntKind.u8.wrap (tt:Int)=(bt.toNat:Int):=by rw [IntKind.wrap_u8];have:=E3.out;omega
 obtain ⟨p0,p1⟩:=P1.c2
 first
 |clear A6n
  have new1:=World.new_ne w1 ⟨w,1,none⟩ p1;go_wp2_with fail
  refine (I5 w1 _ [69,bk] ky 3 _ (AK.lit2 w1 69 bk 69 _ rfl E1.out) sM sM oM oM).mono ?_;rintro e w2 ⟨⟨v2,rfl,O2⟩,b2'⟩;rw [← HL1.out] at O2;have b2:Below w1 w1 w2:=(Ae (Below.refl w1 w1) _).trans b2';have P2:=P1.keepL b2 hP1;have B2:=B1.trans (b2.mono B1.size);have z12:=b2.size;obtain ⟨a2',c2',rfl,-⟩:=AK.form O2;clear p0 p1 new1 b2';have p2:=P2.cell 2 _ rfl;have p3:=P2.cell 3 _ rfl;have p4:=P2.cell 4 _ rfl;have p5:=P2.cell 5 _ rfl;have p6:=P2.cell 6 _ rfl;go_upto_region 4 with fail
  go_cut [4] (fun v wq=>AK wq w1 v L4∧Below w w wq∧Bx wq w [.int .i64 (kd:Int), .int .i64 (ky:Int), .int .i64 (ch:Int), .int .i64 (tt:Int), .int .i64 (am:Int), .int .i64 (fe:Int),ys]∧w1.heap.size≤wq.heap.size)
  case first =>
   have hl2:=P2.lt
   go_region_law (first
    | ((fail_if_success (have ht:=O3));refine XE rfl _ _ rfl w1 _ L1 rfl (AC.alloc (w:=w2.drew) O2 _) ⟨w2,0,none⟩ 2 2 [bc,bt] rfl (AK.lit2 w2.drew bc bt _ _ (by first | rfl | exact E2.out | exact e2) (by first | rfl | exact E3.out | exact e3)).vs (by have:=Hl1.out;omega) sM (Nat.le_trans z12 (Aj w2.drew _)) ?_;intro v3 w3 O3 b3;rw [← HL2.out] at O3;obtain ⟨a3,c3,rfl,-⟩:=AK.form O3;have P3:=(P2.drew.alloc _).keepL b3 hP1;have B3:Below w w w3:=B2.trans (((Ae (Below.drew (Below.refl _ w2)) _).mono B2.size).trans (b3.mono B1.size));have z3:w1.heap.size≤w3.heap.size:=Nat.le_trans (Nat.le_trans z12 (Aj w2.drew _)) b3.size;have hl3:=P3.lt;have p4:=P3.cell 4 _ rfl;have p5:=P3.cell 5 _ rfl)
    | ((fail_if_success (have ht:=O4));go_simp;go_at_call 271;refine (I5 w1 _ L2 am 7 _ O3 z3 (by have:=Hl2.out;omega) oM oM).mono ?_;rintro e w4 ⟨⟨v4,rfl,O4⟩,b4⟩;rw [← HL3.out] at O4;obtain ⟨a4,c4,rfl,-⟩:=AK.form O4;have P4:=P3.keepL b4 hP1;have p5:=P4.cell 5 _ rfl;have B4:=B3.trans (b4.mono B1.size);have z4:=Nat.le_trans z3 b4.size)
    | (go_simp;go_at_call 271;refine (I5 w1 _ L3 fe 7 _ O4 z4 (by have:=Hl3.out;omega) oM oM).mono ?_;rintro e w5 ⟨⟨v5,rfl,O5⟩,b5⟩;rw [← HL4.out] at O5;obtain ⟨a5,c5,rfl,-⟩:=AK.form O5;have P5:=P4.keepL b5 hP1;have B5:=B4.trans (b5.mono B1.size);have z5:=Nat.le_trans z4 b5.size))
   all_goals
    go_wp2_with fail
    go_meet
    case rel=>exact ⟨O5,B5,P5,z5⟩
  case rest =>
   obtain ⟨O5,B5,P5,z5⟩:=hcut;obtain ⟨a5,c5,rfl,-⟩:=AK.form O5;have p6:=P5.cell 6 _ rfl;have z56:=Aj;clear p2 p3 p4 p5
   cases ys with
   | true =>
    have A6o:=trivial;exact fX
   | false =>
    have A6p:=trivial;exact fY
 |have O0:=AK.lit2 w1 69 bk 69 _ rfl E1.out;have C1:=Hc _ [69,bk] ky 3 _ O0.vs sM oM oM (by show ky<16777216;omega);rw [← HL1.out] at C1;clear O0;go_wp2_with fail
  refine C1.mono ?_;rintro e w2 ⟨⟨v2,rfl,O2⟩,b2'⟩;have b2:Below w1 w1 w2:=AD b2' (Ae (Below.refl w1 w1) _);have P2:=P1.keepL b2 hP1;have B2:=B1.trans (b2.mono B1.size);have O2:=AC.le (B':=w1.heap.size) O2 (Aj _ _);have O2:AK w2 w1 v2 L1:=O2;obtain ⟨a2',c2',rfl,-⟩:=AK.form O2;have hl2:=P2.lt;have z2:=b2.size;clear p0 p1 b2' C1 P1;have p2:=P2.cell 2 _ rfl;have p3:=P2.cell 3 _ rfl;go_wp2_with (at_builtin;refine Da Dd Tryz.underlying161 rfl dC dC De Ed rfl _ _ rfl w1 _ L1 rfl (AC.alloc O2 _) _ [bc,bt] rfl (AK.lit2 w2 bc bt _ _ (by first | rfl | exact E2.out) (by first | rfl | exact E3.out)).vs (by have:=Hl1.out;omega) sM (Nat.le_trans z2 (Aj _ _)) ?_)
  intro v3 w3 O3 b3 g3;rw [← HL2.out] at O3;have O3:AK w3 w1 v3 L2:=O3;obtain ⟨a3,c3,rfl,-⟩:=AK.form O3;have b3':=((Ae (Below.refl w2 w2) _).mono z2).trans b3;have P3:=P2.keepL b3' hP1;have B3:=B2.trans (b3'.mono B1.size);have z3:=Nat.le_trans z2 b3'.size;clear O2 p2 p3 P2 b3 b3' g3 hl2 z2 B2 b2;have p4:=P3.cell 4 _ rfl;have C2:=Hc _ L2 am 7 _ O3.vs (by have:=Hl2.out;omega) oM oM (by show am<72057594037927936;omega);rw [← HL3.out] at C2;go_wp2_with fail
  refine C2.mono ?_;rintro e w4 ⟨⟨v4,rfl,O4⟩,b4⟩;have O4:AK w4 w1 v4 L3:=AC.le O4 z3;obtain ⟨a4,c4,rfl,-⟩:=AK.form O4;have P4:=P3.keep b4;have B4:=AD b4 B3;have z4:=Nat.le_trans z3 b4.size;clear O3 C2 p4 P3 B3;have p5:=P4.cell 5 _ rfl;have C3:=Hc _ L3 fe 7 _ O4.vs (by have:=Hl3.out;omega) oM oM (by show fe<72057594037927936;omega);rw [← HL4.out] at C3;go_wp2_with fail
  refine C3.mono ?_;rintro e w5 ⟨⟨v5,rfl,O5⟩,b5⟩;have O5:AK w5 w1 v5 L4:=AC.le O5 z4;obtain ⟨a5,c5,rfl,-⟩:=AK.form O5;have P5:=P4.keep b5;have B5:=AD b5 B4;have z5:=Nat.le_trans z4 b5.size;clear O4 C3 p5 P4 B4 b4 b5 z3 z4;have p6:=P5.cell 6 _ rfl
  cases ys with
  | true =>
   exact fX
  | false =>
   exact fY):p:=h
theorem A6q(h:p:=by
 obtain ⟨k,hk,rfl,htk,hB⟩:=hrel;by_cases hlt:k<n;rotate_left
 ·have hall:xs=ys:=Jh HN.out HM.out dJ;go_wp2;go_ret;exact ⟨⟨true,rfl,by simp [hall]⟩,hB⟩
 obtain ⟨g,off,x,rfl,hg,-,c0,c1,c2,c3,c4,c5,c6,hx,htx⟩:=(V.keep hB).at7 hlt;obtain ⟨g',off',y,rfl,hg',-,d0,d1,d2,d3,d4,d5,d6,hy,hty⟩:=(U.keep hB).at7 hlt;have A6r:=trivial;exact fZ):p:=h
theorem fa(h:p:=by
 rintro e w1 ⟨rfl,rfl⟩;cases hT3:AH amt
 ·have hno:Hid (Cz size few all sf sa amt good=0):=by
   unfold Hid Cz;rw [if_pos (by rw [HhT0.out,HhT1.out,HhT2.out,hT3];simp)]
  clear hT3;exact Ik
 have HhT3:=lH hT3;clear hT3;by_cases hp4:sf<0
 ·have A6s:=trivial;exact OK
 have e4:decide (sf<0)=false:=decide_eq_false hp4;have Hhp4:=lH hp4;by_cases hp5:sa<0
 ·have A6t:=trivial;exact OK
 have e5:decide (sa<0)=false:=decide_eq_false hp5;have Hhp5:=lH hp5;by_cases hp6:all<few
 ·have A6u:=trivial;exact OK
 have e6:decide (all<few)=false:=decide_eq_false hp6;have Hhp6:=lH hp6;by_cases hp7:sa<sf
 ·exact OK
 have e7:decide (sa<sf)=false:=decide_eq_false hp7;have Hhp7:=lH hp7;have hs:=of_decide_eq_true HhT0.out;have hf:=of_decide_eq_true HhT1.out;have ha:=of_decide_eq_true HhT2.out;have hm:=of_decide_eq_true HhT3.out;by_cases r1:sa<10;rotate_left
 ·exact fc
 by_cases r2:all+amt≤size;rotate_left
 ·exact fc
 by_cases r3:sf<5;rotate_left
 ·exact fd
 by_cases r4:few+amt≤size / 2
 ·have hres:Hid (Cz size few all sf sa amt good=1):=A5N;go_wp2;go_ret;exact ⟨CD FI,rfl⟩
 exact fd):p:=h
theorem fg(h:p:=by
 have A6v:=trivial;exact Sd):p:=h
theorem fh(h:p:=by
 obtain ⟨F3,r3⟩:∃ F,Mg F y3 w3 v b.circles:=⟨_,RwO.mk' R9 hok2⟩;obtain ⟨a3,n3,k3,rfl⟩:=r3.form;have PY:=P.keep c0;have RY:=R.keep c0;have s1:=r1.keep c0;have s2:=r2.keep c0;have BY:=AD c0 B3;have zY:=c0.size;clear p5 hpl o c1 cg P R r1 r2;have p5:=PY.cell 5 _ rfl;have f5:=PY.fz 5 AF;go_upto_region 4 with fail
 have PN:Bx (y3.setCell ⟨w,5,none⟩ (.slice a3 n3 k3)) w [b.tick,b.next,b.wallet, .slice a1 n1 k1, .slice a2 n2 k2, .slice a3 n3 k3]:=PY.set1 5 _ AF;have RN:Bx (y3.setCell ⟨w,5,none⟩ (.slice a3 n3 k3)) (w.heap.size+1) [I0,I0,I0, .slice none 0 0, .slice none 0 0, .slice none 0 0]:=RY.otherC _ _ _ oM;have t3:Mg F3 (y3.setCell ⟨w,5,none⟩ (.slice a3 n3 k3)) w3 _ b.circles:=r3.putB oM;have t1:Jz F1 (y3.setCell ⟨w,5,none⟩ (.slice a3 n3 k3)) w1 _ b.chans:=s1.putB oM;have t2:Ko F2 (y3.setCell ⟨w,5,none⟩ (.slice a3 n3 k3)) w2 _ b.htlcs:=s2.putB oM;have B4:Below w w (y3.setCell ⟨w,5,none⟩ (.slice a3 n3 k3)):=Below.setCell BY SA _;have h4:(y3.setCell ⟨w,5,none⟩ (.slice a3 n3 k3)).heap.size=y3.heap.size:=AP;clear p5 f5 PY RY BY c0 r3 s1 s2;generalize y3.setCell ⟨w,5,none⟩ (.slice a3 n3 k3)=w4 at PN RN B4 h4 t1 t2 t3 ⊢;have P:=PN;have R:=RN;have r1:=t1;have r2:=t2;have r3:=t3;have g4:w3.heap.size≤w4.heap.size:=AA;clear PN RN h4 zY t1 t2 t3;have hd:((F1 ++ F2) ++ F3).Nodup:=JK (JK r1.nd r2.nd (n:=w2.heap.size) (fun k hk=>lt1.out k hk) (fun k hk=>(r2.lt k hk).1)) r3.nd (n:=w3.heap.size) (fun k hk=>lt12.out k hk) (fun k hk=>(r3.lt k hk).1)
 go_wp2_with (first
  | ((show Go.wpList _ _ _ ((Go.Oper.mk _ (Go.Op.load 54 _) _ _ _ _) :: _) _ _);refine Ce NE Ip rfl _ rfl _ _ rfl [b.tick,b.next,b.wallet, .slice a1 n1 k1, .slice a2 n2 k2, .slice a3 n3 k3] (P.range 0 [b.tick,b.next,b.wallet, .slice a1 n1 k1, .slice a2 n2 k2, .slice a3 n3 k3] rfl) rfl ?_)
  | ((show Go.wpList _ _ _ ((Go.Oper.mk _ (Go.Op.store 54 _ _) _ _ _ _) :: _) _ _);refine M6 Ip rfl _ _ rfl (w.heap.size+1) 0 [b.tick,b.next,b.wallet, .slice a1 n1 k1, .slice a2 n2 k2, .slice a3 n3 k3] rfl rfl (R.there 0 6 AF) rfl A5e ?_;have RF:Bx (w4.setCells (w.heap.size+1) 0 [b.tick,b.next,b.wallet, .slice a1 n1 k1, .slice a2 n2 k2, .slice a3 n3 k3]) (w.heap.size+1) [b.tick,b.next,b.wallet, .slice a1 n1 k1, .slice a2 n2 k2, .slice a3 n3 k3]:=R.set 0 [b.tick,b.next,b.wallet, .slice a1 n1 k1, .slice a2 n2 k2, .slice a3 n3 k3] AF;have ex:Ex [w.heap.size+1] w4 (w4.setCells (w.heap.size+1) 0 [b.tick,b.next,b.wallet, .slice a1 n1 k1, .slice a2 n2 k2, .slice a3 n3 k3]):=MR sM [b.tick,b.next,b.wallet, .slice a1 n1 k1, .slice a2 n2 k2, .slice a3 n3 k3] _ _ _ (Ex.refl _ _);have BF:Below w w (w4.setCells (w.heap.size+1) 0 [b.tick,b.next,b.wallet, .slice a1 n1 k1, .slice a2 n2 k2, .slice a3 n3 k3]):=Kp oM [b.tick,b.next,b.wallet, .slice a1 n1 k1, .slice a2 n2 k2, .slice a3 n3 k3] _ _ B4;generalize w4.setCells (w.heap.size+1) 0 [b.tick,b.next,b.wallet, .slice a1 n1 k1, .slice a2 n2 k2, .slice a3 n3 k3]=wf at RF ex BF ⊢))
 have q1:=r1.kept ex (fun k hk hm=>A5f);have q2:=r2.kept ex (fun k hk hm=>A5g);have q3:=r3.kept ex (fun k hk hm=>A5h);clear ex r1 r2 r3 P R;have hL:=Iq NE Ip RF rfl
 first
 |clear A6w
  refine bodyPost_ret (v := .agg #[b.tick,b.next,b.wallet, .slice a1 n1 k1, .slice a2 n2 k2, .slice a3 n3 k3]) (by simp only [results,Tryz.results141];simp [Act.put,hL,asAddr]) rfl ?_;exact fi
 |refine bodyPost_ret (v := .agg #[b.tick,b.next,b.wallet, .slice a1 n1 k1, .slice a2 n2 k2, .slice a3 n3 k3]) (by simp only [results,Tryz.results137];simp [Act.put,hL,asAddr]) rfl ?_;exact fi):p:=h
theorem fj(h:p:=by
 simp only [show Bk.new.tick=0 from rfl,show Bk.new.next=1 from rfl,show Bk.new.wallet=0 from rfl] at CA;have hz2:=BX.size;have hg32:=P3.lt;go_wp2_with fail
 refine CA.mono ?_;rintro e w3 ⟨⟨F,us,x',y',z',p,c,rfl,O3,N3,C3⟩,bx⟩
 have hcod:∀ c∈(Bo Bk.new es).codes,AE c:=by
  rw [Wm];exact Uy es (fun c hc=>by cases hc)
 have hbd:Hid ((Bo Bk.new es).codes.length≤1048576∧(Bo Bk.new es).ps.length≤1048576):=by
  unfold Hid;have:=Xi Bk.new es es.length
  rw [XZ (Nat.le_refl _)] at this;rw [Wm];omega
 obtain ⟨A,hA⟩:∃ A,A=Bo Bk.new es:=⟨_,rfl⟩;rw [← hA] at O3 N3 C3 hbd hcod ⊢;have HR:=lH (xF hA.symm);obtain ⟨bk,ps,cs⟩:=A;dsimp only at O3 N3 C3 hbd hcod HR ⊢;obtain ⟨⟨a1,n1,k1,rfl⟩,⟨a2,n2,k2,rfl⟩,⟨a3,n3,k3,rfl⟩⟩:=O3.form;obtain ⟨ap,cp,rfl,-,-⟩:=N3.form;obtain ⟨ac,cc,rfl,-⟩:=AC.of (ok:=fun _=>True) C3 (fun _ _=>trivial);have V3:=AC.vs (enc:=DI) (sz:=1) (ok:=AE) (fun _=>rfl) C3 hcod;replace P2:=P2.keep bx;replace P3:=P3.keep bx;replace BX:=AD bx BX;clear bx;clear CA hA C3 hcod;go_upto_region 2 with fail
 refine cW fun w4 P5 bx => ?_;have h35:g3<w3.heap.size:=P3.lt;obtain ⟨u5,hu5⟩:∃ u,u=w3.heap.size:=⟨_,rfl⟩;rw [← hu5] at P5 h35 ⊢;clear hu5;replace P2:=P2.keep bx;replace P3:=P3.keep bx;replace O3:=O3.keep bx;replace N3:=N3.keep bx;replace V3:=V3.keep bx;replace BX:=AD bx BX;clear bx
 first
 |clear A6x
  have CP:=A2O _ ps w4 N3.vn;have A6a:=trivial;exact fF
 |have CP:=A1s _ ps w4 N3.vn;exact fF):p:=h
theorem fk(h:p:=by
 obtain ⟨k,hk,rfl,ho,hB,hR⟩:=hrel;have hBw:=AD hB B0;have hol:=WJ (SS.take k);have hol2:(Ee (SS.take k)).length≤600:=by rw [List.length_take] at hol;omega
 obtain ⟨EE,hEE⟩:∃ l,l=Ee (SS.take k):=⟨_,rfl⟩;rw [← hEE] at ho hol2;have HEE:=lH hEE;have A6y:=trivial;exact JT):p:=h
theorem fl(h:p:=by
 have A6z:=trivial;exact Se):p:=h
theorem Sf(h:p:=by
 refine wp_region_noPanic ?_;refine wp_region_held_drew (S:=fun w'=>w'.cell? ⟨g,0,none⟩=.some b.tick∧w'.cell? ⟨g,1,none⟩=.some b.next∧w'.cell? ⟨g,2,none⟩=.some b.wallet∧w'.cell? ⟨g,3,none⟩=some (.slice (some ⟨gx,0,none⟩) n cx)∧w'.cell? ⟨g,4,none⟩=some (.slice ay m cy)∧w'.cell? ⟨g,5,none⟩=some (.slice az q cz)∧w'.cell? ⟨ue,2,none⟩=.some ch∧w'.cell? ⟨ue,5,none⟩=.some fe∧w'.cell? ⟨uc,2,none⟩=.some A.loc) kR ?_ (fun hHeld => ?_)
 ·exact Bc
 have A60:=trivial;exact Sg):p:=h
theorem fm(h:p:=by
 obtain ⟨r2,hr2⟩:∃ r,r=BO dk:=⟨_,rfl⟩;simp only [← hr2] at CN;have H2:=lH hr2;clear hr2;have u1:=PX.cell 1 _ rfl;have u2:=PX.cell 2 _ rfl;have u3:=PX.cell 3 _ rfl;have u4:=PX.cell 4 _ rfl;have u5:=PX.cell 5 _ rfl;have u6:=PX.cell 6 _ rfl;have u7:=PX.cell 7 _ rfl;have u8:=PX.cell 8 _ rfl;have u9:=PX.cell 9 _ rfl;have u10:=PX.cell 10 _ rfl;have u11:=PX.cell 11 _ rfl;have u12:=PX.cell 12 _ rfl;have u13:=PX.cell 13 _ rfl;have u14:=PX.cell 14 _ rfl;have u15:=PX.cell 15 _ rfl;have u16:=PX.cell 16 _ rfl;go_wp2_with fail
 refine (CH _ VX.hub).mono ?_;rintro e w2 ⟨⟨r1,rfl,hr1⟩,bx⟩;have H1:=lH hr1;have PY:=PX.keep bx;have BY:=AD bx BX;have VY:=VX.keep bx;clear u1 u2 u3 u4 u5 u6 u7 u8 u9 u10 u11 u12 u13 u14 u15 u16 CH hr1 bx;have u15:=PY.cell 15 _ rfl;have u16:=PY.cell 16 _ rfl
 cases r1 with
 | false =>
  have BZ:=BY
  have hres:Hid (DY (⟨false,hub,dk,tk,st,cd⟩:Wd)=false):=by
   unfold Hid;rw [Bool.eq_false_iff];intro e;have e2:=((MK rfl).1 e).1;have:=H1.out.2 e2;cases this
  exact OM
 | true =>
  go_wp2_with fail
  refine (CN _ VY.disk).mono ?_;rintro e w3 ⟨rfl,bx⟩;have PZ:=PY.keep bx;have BZ:=AD bx BY;clear u15 u16 bx;have u16:=PZ.cell 16 _ rfl
  cases r2 with
  | false =>
   have hres:Hid (DY (⟨false,hub,dk,tk,st,cd⟩:Wd)=false):=by
    unfold Hid;rw [Bool.eq_false_iff];intro e;have e2:=((MK rfl).1 e).2.1;have:=H2.out;rw [show BO dk=true from e2] at this;cases this
   exact OM
  | true =>
   by_cases h0:na=0
   ·subst h0
    have hres:Hid (DY (⟨false,hub,dk,tk,st,cd⟩:Wd)=true):=by
     unfold Hid;rw [MK rfl];exact ⟨H1.out.1 GL,H2.out.symm,List.length_eq_zero_iff.1 HNA.out⟩
    exact OM
   have e0:((na:Int) == 0)=false:=A8;have e1:decide ((na:Int)=0)=false:=A8
   have hres:Hid (DY (⟨false,hub,dk,tk,st,cd⟩:Wd)=false):=by
    unfold Hid;rw [Bool.eq_false_iff];intro e;have e2:=((MK rfl).1 e).2.2;have:=HNA.out;rw [show dk.dirty = [] from e2] at this;exact h0 this.symm
   exact OM):p:=h
theorem cD(h:p:=by
 have A61:=trivial;exact Sh):p:=h
theorem cF(h:p:=by
 have A62:=trivial;exact Sh):p:=h
theorem bR(h:p:=by
 subst hk0;exact ei):p:=h
theorem bQ(h:p:=by
 subst hk0;exact eh):p:=h
theorem fo(h:p:=by
 refine (Du g 3 _ Zc1 Fc1 dC).mono ?_;rintro e w2 ⟨rfl,hw2⟩;have FC:=Hc1.setCode 3;have PS:=Pc1.set1 7 (.int .i64 3) AF;have QS0:=Ec10.otherC g 7 (.int .i64 3) hneq;have A63:=trivial;exact OO):p:=h
theorem fp(h:p:=by
 rw [hg] at CG;have A64:=trivial;exact Si):p:=h
theorem A65(h:p:=by
 obtain ⟨k,hk,rfl,htk,hB⟩:=hrel;have hBw:=AD hB B1;have LX:=LX.keep hB;have AX:=A0.keep hB;have l1:=LX.cell 1 _ rfl;have a1:=AX.cell 1 _ rfl;by_cases hlt:k<n;rotate_left
 ·have hall:Hid (xs=ys):=Jh HN.out HM.out dJ;go_wp2;go_ret;exact ⟨⟨true,rfl,by simp [hall.out]⟩,hBw⟩
 obtain ⟨g,off,x,rfl,hg,-,⟨c0,c1,c2⟩,hx,htx⟩:=BE.at_ (VX.keep hB) hlt;obtain ⟨g',off',y,rfl,hg',-,⟨d0,d1,d2⟩,hy,hty⟩:=BE.at_ (UX.keep hB) hlt;exact fZ):p:=h
theorem KP(h:p:=by
 generalize w.alloc (.cells #[b.tick,b.next,b.wallet, .slice ax n cx, .slice ay m cy, .slice az q cz] 54)=w1 at Q1 b1 hz1 ⊢;refine cL fun w2 Q2 b2 hz2 => ?_;refine cJ fun w3 Q3 b3 hz3 => ?_;refine cZ fun w4 Q4 b4 hz4 => ?_;have BX:=AD b4 (AD b3 (AD b2 b1));have PB:=((Q1.keep b2).keep b3).keep b4;have PE:=(Q2.keep b3).keep b4;have RB:=Q3.keep b4;have RP:=Q4;rw [hz1] at PE hz2;rw [hz2] at RB hz3;rw [hz3] at RP;obtain ⟨ub,hub⟩:∃ u,u=w.heap.size:=⟨_,rfl⟩;obtain ⟨ue,hue⟩:∃ u,u=w.heap.size+1:=⟨_,rfl⟩;obtain ⟨ur,hur⟩:∃ u,u=w.heap.size+1+1:=⟨_,rfl⟩;obtain ⟨up,hup⟩:∃ u,u=w.heap.size+1+1+1:=⟨_,rfl⟩;have hbe:ub<ue:=AA;have her:ue<ur:=AA;have hrp:ur<up:=AA;have hwb:w.heap.size≤ub:=AA;rw [← hup] at RP;rw [← hur] at RB;rw [← hue] at PE;rw [← hub] at PB;rw [← hup,← hur,← hue,← hub];have hpl:=RP.lt;have V4:=V.keep BX;clear Q1 Q2 Q3 Q4 b1 b2 b3 b4 hz1 hz2 hz3 hz4 hub hue hur hup V;have hbk:=(Gc b).2 hb
 first
 |clear A66
  have CB:=NH (.slice ax n cx) (.slice ay m cy) (.slice az q cz) b;rw [hbk] at CB;have CG:=fun w=>Qs kd ky ch tt am fe ys w;have A67:=trivial;exact fp
 |have CB:=Mx (.slice ax n cx) (.slice ay m cy) (.slice az q cz) b;rw [hbk] at CB;have CG:=fun w=>QV kd ky ch tt am fe ys w;exact fp):p:=h
theorem fq(h:p:=by
 clear hne;by_cases h0:x.key=y.key;rotate_left
 ·have e0:(x.key == y.key)=false:=A8;clear hxy;exact JV
 have e0:(x.key == y.key)=true:=A8;by_cases h1:x.inn=y.inn;rotate_left
 ·have e1:(x.inn == y.inn)=false:=BG;clear hxy h0;exact JV
 have e1:(x.inn == y.inn)=true:=BG;by_cases h2:x.out=y.out;rotate_left
 ·have e2:(x.out == y.out)=false:=Cs;clear hxy h0 h1;exact JV
 have e2:(x.out == y.out)=true:=Cs;by_cases h3:x.ain=y.ain;rotate_left
 ·have e3:(x.ain == y.ain)=false:=Fo;clear hxy h0 h1 h2;exact JV
 have e3:(x.ain == y.ain)=true:=Fo;by_cases h4:x.aout=y.aout;rotate_left
 ·have e4:(x.aout == y.aout)=false:=Fp;clear hxy h0 h1 h2 h3;exact JV
 have e4:(x.aout == y.aout)=true:=Fp;by_cases h5:x.kept=y.kept;rotate_left
 ·have e5:(x.kept == y.kept)=false:=Gp;clear hxy h0 h1 h2 h3 h4;exact JV
 have e5:(x.kept == y.kept)=true:=Gp;by_cases h6:x.age=y.age
 ·have e6:(x.age == y.age)=true:=Gq;exact KQ
 have e6:(x.age == y.age)=false:=Gq;clear hxy h0 h1 h2 h3 h4 h5;exact JV):p:=h
theorem fr(h:p:=by
 clear hne;by_cases h0:x.id=y.id;rotate_left
 ·have e0:(x.id == y.id)=false:=A8;clear hxy;exact JW
 have e0:(x.id == y.id)=true:=A8;by_cases h1:x.size=y.size;rotate_left
 ·have e1:(x.size == y.size)=false:=BG;clear hxy h0;exact JW
 have e1:(x.size == y.size)=true:=BG;by_cases h2:x.loc=y.loc;rotate_left
 ·have e2:(x.loc == y.loc)=false:=Cs;clear hxy h0 h1;exact JW
 have e2:(x.loc == y.loc)=true:=Cs;by_cases h3:x.rem=y.rem;rotate_left
 ·have e3:(x.rem == y.rem)=false:=Fo;clear hxy h0 h1 h2;exact JW
 have e3:(x.rem == y.rem)=true:=Fo;by_cases h4:x.base=y.base;rotate_left
 ·have e4:(x.base == y.base)=false:=Fp;clear hxy h0 h1 h2 h3;exact JW
 have e4:(x.base == y.base)=true:=Fp;by_cases h5:x.ppm=y.ppm;rotate_left
 ·have e5:(x.ppm == y.ppm)=false:=Gp;clear hxy h0 h1 h2 h3 h4;exact JW
 have e5:(x.ppm == y.ppm)=true:=Gp;by_cases h6:x.score=y.score
 ·have e6:(x.score == y.score)=true:=Gq;exact KQ
 have e6:(x.score == y.score)=false:=Gq;clear hxy h0 h1 h2 h3 h4 h5;exact JW):p:=h
theorem ft(h:p:=by
 obtain ⟨F2,r2⟩:∃ F,Ko F y2 w2 v b.htlcs:=⟨_,RwO.mk' R9 hok1⟩;obtain ⟨a2,n2,k2,rfl⟩:=r2.form;have PY:=P.keep c0;have RY:=R.keep c0;have s1:=r1.keep c0;have BY:=AD c0 B2;have zY:=c0.size;clear p4 hpl o c1 cg P R r1;have p4:=PY.cell 4 _ rfl;have f4:=PY.fz 4 AF;go_upto_region 3 with fail
 have PN:Bx (y2.setCell ⟨w,4,none⟩ (.slice a2 n2 k2)) w [b.tick,b.next,b.wallet, .slice a1 n1 k1, .slice a2 n2 k2, .slice az q cz]:=PY.set1 4 _ AF;have RN:Bx (y2.setCell ⟨w,4,none⟩ (.slice a2 n2 k2)) (w.heap.size+1) [I0,I0,I0, .slice none 0 0, .slice none 0 0, .slice none 0 0]:=RY.otherC _ _ _ oM;have t2:Ko F2 (y2.setCell ⟨w,4,none⟩ (.slice a2 n2 k2)) w2 _ b.htlcs:=r2.putB oM;have t1:Jz F1 (y2.setCell ⟨w,4,none⟩ (.slice a2 n2 k2)) w1 _ b.chans:=s1.putB oM;have B3:Below w w (y2.setCell ⟨w,4,none⟩ (.slice a2 n2 k2)):=Below.setCell BY SA _;have h3:(y2.setCell ⟨w,4,none⟩ (.slice a2 n2 k2)).heap.size=y2.heap.size:=AP;clear p4 f4 PY RY BY c0 r2 s1;generalize y2.setCell ⟨w,4,none⟩ (.slice a2 n2 k2)=w3 at PN RN B3 h3 t1 t2 ⊢;have P:=PN;have R:=RN;have r1:=t1;have r2:=t2;have g3:w2.heap.size≤w3.heap.size:=AA;clear PN RN h3 zY t1 t2;have lt12:Hid (∀ k∈F1 ++ F2,k<w3.heap.size):=fun k hk=>(List.mem_append.1 hk).elim (fun h=>(r1.lt k h).2) (fun h=>(r2.lt k h).2);have p5:=P.cell 5 _ rfl;have hpl:=P.lt
 first
 |clear A68
  go_wp2_with (at_builtin;refine Da IM Tryz.underlying52 rfl dC dC (fun _=>rfl) I3 rfl _ _ rfl w3 (.slice none 0 0) [] rfl (AC.nil _ _) _ b.circles rfl (VX.circles.keep B3) sM oM (Nat.le_refl _) ?_)
  intro v y3 o c1 cg;have c0:Below w3 w3 y3:=c1;have A6w:=trivial;exact fh
 |go_wp2_with (at_builtin;refine Da IM Tryz.underlying52 rfl dC dC (fun _=>rfl) I3 rfl _ _ rfl w3 (.slice (some ⟨w3,0,none⟩) 0 0) [] rfl (AC.made w3 w3 (Nat.le_refl _)) _ b.circles rfl ((VX.circles.keep B3).keep (bW)) sM oM (Aj _ _) ?_)
  intro v y3 o c1 cg;have c0:Below w3 w3 y3:=(Below.trans (bW) c1);exact fh):p:=h
theorem fR(h:p:=by
 refine wp_region_noPanic ?_;refine wp_region_held_drew (S:=fun w'=>w'.cell? ⟨g,0,none⟩=.some b.tick∧w'.cell? ⟨g,1,none⟩=.some b.next∧w'.cell? ⟨g,2,none⟩=.some b.wallet∧w'.cell? ⟨g,3,none⟩=some (.slice ax n cx)∧w'.cell? ⟨g,4,none⟩=some (.slice ay m cy)∧w'.cell? ⟨g,5,none⟩=some (.slice az q cz)∧w'.cell? ⟨ue,2,none⟩=.some ch) kR ?_ (fun hHeld => ?_)
 ·exact Bc
 exact Sg):p:=h
theorem fu(h:p:=by
 go_upto_region 1 with fail
 refine cL fun w1 L0 b1 hz1 => ?_;refine cJ fun w2 P0 b2 hz2 => ?_;have L1:=L0.keep b2;refine cW fun w3 R0 b3 => ?_;have LX:=L1.keep b3;have PX:=P0.keep b3;have RX:=R0;have B3:=AD b3 (AD b2 b1);have VLx:=VL.lines.keep B3;have VPx:=VP.keep B3;rw [hz1] at PX hz2;rw [hz2] at RX;obtain ⟨lb,hlb⟩:∃ n,n=w.heap.size:=⟨_,rfl⟩;obtain ⟨pb,hpb⟩:∃ n,n=w.heap.size+1:=⟨_,rfl⟩;obtain ⟨rb,hrb⟩:∃ n,n=w.heap.size+1+1:=⟨_,rfl⟩;have L0l:lb<pb:=AA;have P0l:pb<rb:=AA;rw [← hrb] at RX;rw [← hpb] at PX;rw [← hlb] at LX;rw [← hrb,← hpb,← hlb];have R0l:=RX.lt;have HLB:=lH hlb;clear L0 P0 R0 L1 b1 b2 b3 hpb hrb hz1 hz2 hlb;obtain ⟨l0,l1⟩:=LX.c2;obtain ⟨p0,p1⟩:=PX.c2;go_wp2_with fail
 first
 |clear A69
  refine (Pv l.last _ l.lines _ VLx).mono ?_;have A7A:=trivial;exact fw
 |refine (MJ l.last _ l.lines _ VLx).mono ?_;exact fw):p:=h
theorem fx(h:p:=by
 clear p0 p1 P hB;obtain ⟨k2,hk2,rfl,hallw,hB,P⟩:=hrel;obtain ⟨p0,p1⟩:=P.c2;have hPl:=P.lt;by_cases hlt2:k2<m;rotate_left
 ·have hyes:Hid (BO d=true):=by
   have h9:=hallw.out;rw [List.take_of_length_le EL] at h9;unfold Hid;rw [← HFL.out,hall2.out,h9];rfl
  go_wp2;go_ret;exact ⟨Ag Rr,hB⟩
 have A7B:=trivial;exact fy):p:=h
theorem gA(h:p:=by
 have A7C:=trivial;exact gB):p:=h
theorem gC(h:p:=by
 rintro e wc4 ⟨⟨qq,rfl,hqq⟩,bc4⟩;have Bc4:Below w1 w1 wc4:=Below.trans Bc3 (Below.mono bc4 Bc3.size);have Ec4_0:=PX.keep Bc4;have c4_0_1:=Ec4_0.cell 1 _ rfl;have c4_0_2:=Ec4_0.cell 2 _ rfl;have c4_0_3:=Ec4_0.cell 3 _ rfl;have c4_0_4:=Ec4_0.cell 4 _ rfl;have c4_0_5:=Ec4_0.cell 5 _ rfl;have c4_0_6:=Ec4_0.cell 6 _ rfl;have c4_0_7:=Ec4_0.cell 7 _ rfl;have c4_0_8:=Ec4_0.cell 8 _ rfl;have c4_0_9:=Ec4_0.cell 9 _ rfl;have c4_0_10:=Ec4_0.cell 10 _ rfl;have c4_0_11:=Ec4_0.cell 11 _ rfl;have c4_0_12:=Ec4_0.cell 12 _ rfl;have c4_0_13:=Ec4_0.cell 13 _ rfl;have c4_0_14:=Ec4_0.cell 14 _ rfl;have c4_0_15:=Ec4_0.cell 15 _ rfl;have c4_0_16:=Ec4_0.cell 16 _ rfl;have c4_0_17:=Ec4_0.cell 17 _ rfl;have A7D:=trivial;exact Dm):p:=h
theorem gD(h:p:=by
 have A7E:=trivial;exact Sj):p:=h
theorem gE(h:p:=by
 obtain ⟨y8,z8,l8,PG,V8,-⟩:=H8.cells;obtain ⟨a7,n7,c7,rfl,-,-⟩:=VS.form V8.chans;exact gG):p:=h
theorem OH(h:p:=by
 have BD:Below w1 w1 w1.drew:=Below.drew (Below.refl _ _);have D_0:=PX.keep BD;have d_0_1:=D_0.cell 1 _ rfl;have d_0_2:=D_0.cell 2 _ rfl;have d_0_3:=D_0.cell 3 _ rfl;have d_0_4:=D_0.cell 4 _ rfl;have d_0_5:=D_0.cell 5 _ rfl;have d_0_6:=D_0.cell 6 _ rfl;have d_0_7:=D_0.cell 7 _ rfl;have d_0_8:=D_0.cell 8 _ rfl;have d_0_9:=D_0.cell 9 _ rfl;have d_0_10:=D_0.cell 10 _ rfl;have d_0_11:=D_0.cell 11 _ rfl;have d_0_12:=D_0.cell 12 _ rfl;have d_0_13:=D_0.cell 13 _ rfl;have d_0_14:=D_0.cell 14 _ rfl;have d_0_15:=D_0.cell 15 _ rfl;have d_0_16:=D_0.cell 16 _ rfl;have d_0_17:=D_0.cell 17 _ rfl;refine wp_region_noPanic ?_;refine wp_region_held_drew (S:=fun w'=>w'.cell? ⟨w,1,none⟩=some (.slice a1 n1 k1)∧w'.cell? ⟨w,2,none⟩=some (.slice a2 n2 k2)∧w'.cell? ⟨w,3,none⟩=.some hub.log.next∧w'.cell? ⟨w,4,none⟩=.some hub.log.epoch∧w'.cell? ⟨w,5,none⟩=.some hub.book.tick∧w'.cell? ⟨w,6,none⟩=.some hub.book.next∧w'.cell? ⟨w,7,none⟩=.some hub.book.wallet∧w'.cell? ⟨w,8,none⟩=some (.slice a3 n3 k3)∧w'.cell? ⟨w,9,none⟩=some (.slice a4 n4 k4)∧w'.cell? ⟨w,10,none⟩=some (.slice a5 n5 k5)∧w'.cell? ⟨w,11,none⟩=.some hub.ledger.last∧w'.cell? ⟨w,12,none⟩=some (.slice a6 n6 k6)∧w'.cell? ⟨w,13,none⟩=some (.slice a7 n7 k7)∧w'.cell? ⟨w,14,none⟩=some (.slice a8 n8 k8)∧w'.cell? ⟨w,15,none⟩=some (.slice a9 n9 k9)∧w'.cell? ⟨w,16,none⟩=some (.slice aa na ka)∧w'.cell? ⟨w,17,none⟩=some (.slice ab nb kb)) kR ?_ (fun hHeld => ?_)
 ·exact Bc
 refine tK 0 ?_;refine tK 1 ?_;refine tH 2 fun K hK => ?_;go_simp
 first
 |clear A6V
  go_at_call 52
  have A7F:=trivial;exact gH
 |go_at_call 43
  exact gH):p:=h
theorem A7G(h:p:=by
 have hrz:¬ (0≤cz∧cz≤1125899906842624):=of_decide_eq_false hbz;have AZ:=fun w=>BP cz w;simp only [hbz] at AZ;have A7H:=trivial;exact Gu):p:=h
theorem gI(h:p:=by
 rintro e wc3 ⟨⟨F4,v4,rfl,EO⟩,bc3⟩;have Bc3:Below w1 w1 wc3:=Below.trans Bc2 (Below.mono bc3 Bc2.size);have Ec3_0:=PX.keep Bc3;have c3_0_1:=Ec3_0.cell 1 _ rfl;have c3_0_2:=Ec3_0.cell 2 _ rfl;have c3_0_3:=Ec3_0.cell 3 _ rfl;have c3_0_4:=Ec3_0.cell 4 _ rfl;have c3_0_5:=Ec3_0.cell 5 _ rfl;have c3_0_6:=Ec3_0.cell 6 _ rfl;have c3_0_7:=Ec3_0.cell 7 _ rfl;have c3_0_8:=Ec3_0.cell 8 _ rfl;have c3_0_9:=Ec3_0.cell 9 _ rfl;have c3_0_10:=Ec3_0.cell 10 _ rfl;have c3_0_11:=Ec3_0.cell 11 _ rfl;have c3_0_12:=Ec3_0.cell 12 _ rfl;have c3_0_13:=Ec3_0.cell 13 _ rfl;have c3_0_14:=Ec3_0.cell 14 _ rfl;have c3_0_15:=Ec3_0.cell 15 _ rfl;have c3_0_16:=Ec3_0.cell 16 _ rfl;have c3_0_17:=Ec3_0.cell 17 _ rfl;obtain ⟨ae,ne,ke,rfl⟩:=EO.form;have A7I:=trivial;exact Dm):p:=h
theorem gJ(h:p:=by
 refine (CN _ (VX.disk.keep Bc1)).mono ?_;rintro e wc2 ⟨rfl,bc2⟩;have Bc2:Below w1 w1 wc2:=Below.trans Bc1 (Below.mono bc2 Bc1.size);have Ec2_0:=PX.keep Bc2;have c2_0_1:=Ec2_0.cell 1 _ rfl;have c2_0_2:=Ec2_0.cell 2 _ rfl;have c2_0_3:=Ec2_0.cell 3 _ rfl;have c2_0_4:=Ec2_0.cell 4 _ rfl;have c2_0_5:=Ec2_0.cell 5 _ rfl;have c2_0_6:=Ec2_0.cell 6 _ rfl;have c2_0_7:=Ec2_0.cell 7 _ rfl;have c2_0_8:=Ec2_0.cell 8 _ rfl;have c2_0_9:=Ec2_0.cell 9 _ rfl;have c2_0_10:=Ec2_0.cell 10 _ rfl;have c2_0_11:=Ec2_0.cell 11 _ rfl;have c2_0_12:=Ec2_0.cell 12 _ rfl;have c2_0_13:=Ec2_0.cell 13 _ rfl;have c2_0_14:=Ec2_0.cell 14 _ rfl;have c2_0_15:=Ec2_0.cell 15 _ rfl;have c2_0_16:=Ec2_0.cell 16 _ rfl;have c2_0_17:=Ec2_0.cell 17 _ rfl;have A7J:=trivial;exact Dm):p:=h
theorem gK(h:p:=by
 go_upto_region 18 with fail
 refine wp_region_noPanic ?_;refine wp_region_held_drew (S:=fun w'=>w'.cell? ⟨ue,4,none⟩=.some am∧w'.cell? ⟨ue,5,none⟩=.some fe) kR ?_ (fun hHeld => ?_)
 ·exact Bc
 have A7K:=trivial;exact Gt):p:=h
theorem gL(h:p:=by
 go_upto_region 8 with fail
 obtain ⟨w7,hw7⟩:∃ w7,w7=wg:=⟨_,rfl⟩;subst hw7;obtain ⟨p0,p1,p2,p3,p4,p5⟩:=PX6.c6;obtain ⟨x0,x1,x2,x3⟩:=P6.c4;have hbo:=YD hPk ci;have hbi:=V7 hPk ci;cases hbz:AH cz
 ·exact A7G
 have hrz:0≤cz∧cz≤1125899906842624:=of_decide_eq_true hbz;have AZ:=fun w=>BP cz w;simp only [hbz] at AZ;have CO:=fun g:Grew w7=>A0i _ _ _ b ci g.tw (V6.keep g.below) hPk;have CI:=fun g:Grew w7=>xL _ _ _ b ci g.tw (V6.keep g.below) hPk;have A7L:=trivial;exact gM):p:=h
theorem gN(h:p:=by
 go_upto_region 12 with fail
 exact gO):p:=h
theorem gP(h:p:=by
 obtain ⟨F1,r1⟩:∃ F,Jz F y1 w1 v b.chans:=⟨_,RwO.mk' R9 hok0⟩;obtain ⟨a1,n1,k1,rfl⟩:=r1.form;have PY:=P.keep c0;have RY:=R.keep c0;have BY:=AD c0 B1;have zY:=c0.size;clear p3 hpl o c1 cg P R;have p3:=PY.cell 3 _ rfl;have f3:=PY.fz 3 AF;go_upto_region 2 with fail
 have PN:Bx (y1.setCell ⟨w,3,none⟩ (.slice a1 n1 k1)) w [b.tick,b.next,b.wallet, .slice a1 n1 k1, .slice ay m cy, .slice az q cz]:=PY.set1 3 _ AF;have RN:Bx (y1.setCell ⟨w,3,none⟩ (.slice a1 n1 k1)) (w.heap.size+1) [I0,I0,I0, .slice none 0 0, .slice none 0 0, .slice none 0 0]:=RY.otherC _ _ _ oM;have t1:Jz F1 (y1.setCell ⟨w,3,none⟩ (.slice a1 n1 k1)) w1 _ b.chans:=r1.putB oM;have B2:Below w w (y1.setCell ⟨w,3,none⟩ (.slice a1 n1 k1)):=Below.setCell BY SA _;have h2:(y1.setCell ⟨w,3,none⟩ (.slice a1 n1 k1)).heap.size=y1.heap.size:=AP;clear p3 f3 PY RY BY c0 r1;generalize y1.setCell ⟨w,3,none⟩ (.slice a1 n1 k1)=w2 at PN RN B2 h2 t1 ⊢;have P:=PN;have R:=RN;have r1:=t1;have g2:w1.heap.size≤w2.heap.size:=AA;clear PN RN h2 zY t1;have lt1:=lH (fun k hk=>(r1.lt k hk).2);have p4:=P.cell 4 _ rfl;have hpl:=P.lt
 first
 |clear A7M
  go_wp2_with (at_builtin;refine Da Hz Tryz.underlying51 rfl dC dC (fun _=>rfl) JI rfl _ _ rfl w2 (.slice none 0 0) [] rfl (AC.nil _ _) _ b.htlcs rfl (VX.htlcs.keep B2) sM oM (Nat.le_refl _) ?_)
  intro v y2 o c1 cg;have c0:Below w2 w2 y2:=c1;have A68:=trivial;exact ft
 |go_wp2_with (at_builtin;refine Da Hz Tryz.underlying51 rfl dC dC (fun _=>rfl) JI rfl _ _ rfl w2 (.slice (some ⟨w2,0,none⟩) 0 0) [] rfl (AC.made w2 w2 (Nat.le_refl _)) _ b.htlcs rfl ((VX.htlcs.keep B2).keep (bW)) sM oM (Aj _ _) ?_)
  intro v y2 o c1 cg;have c0:Below w2 w2 y2:=(Below.trans (bW) c1);exact ft):p:=h
theorem gH(h:p:=by
 refine (CH _ (VX.hub.keep BD)).mono ?_;rintro e wc1 ⟨rfl,bc1⟩;have Bc1:Below w1 w1 wc1:=Below.trans BD (Below.mono bc1 BD.size);have Ec1_0:=PX.keep Bc1;have c1_0_1:=Ec1_0.cell 1 _ rfl;have c1_0_2:=Ec1_0.cell 2 _ rfl;have c1_0_3:=Ec1_0.cell 3 _ rfl;have c1_0_4:=Ec1_0.cell 4 _ rfl;have c1_0_5:=Ec1_0.cell 5 _ rfl;have c1_0_6:=Ec1_0.cell 6 _ rfl;have c1_0_7:=Ec1_0.cell 7 _ rfl;have c1_0_8:=Ec1_0.cell 8 _ rfl;have c1_0_9:=Ec1_0.cell 9 _ rfl;have c1_0_10:=Ec1_0.cell 10 _ rfl;have c1_0_11:=Ec1_0.cell 11 _ rfl;have c1_0_12:=Ec1_0.cell 12 _ rfl;have c1_0_13:=Ec1_0.cell 13 _ rfl;have c1_0_14:=Ec1_0.cell 14 _ rfl;have c1_0_15:=Ec1_0.cell 15 _ rfl;have c1_0_16:=Ec1_0.cell 16 _ rfl;have c1_0_17:=Ec1_0.cell 17 _ rfl;have A7N:=trivial;exact Dm):p:=h
theorem Sk(h:p:=by
 go_upto_region 9 with fail
 exact gQ):p:=h
theorem gR(h:p:=by
 refine tK 31 ?_;refine tK 32 ?_;refine tH 33 fun K hK => ?_;go_simp;go_at_call 149
 refine (Du g 14 _ Zc2 Fc2 dC).mono ?_;rintro e w2 ⟨rfl,hw2⟩;have FC:=Hc2.setCode 14;have PS:=Pc2.set1 7 (.int .i64 14) AF;have QS0:=Ec20.otherC g 7 (.int .i64 14) hneq;exact Sl):p:=h
theorem gG(h:p:=by
 obtain ⟨a8,n8,c8,rfl,-,-⟩:=VS.form V8.htlcs;obtain ⟨a9,n9,c9,rfl,-,-⟩:=VS.form V8.circles;obtain ⟨g0,g1,g2,g3,g4,g5,g6⟩:=PG.c7;obtain ⟨v0,v1⟩:=U2.c2;have A7O:=trivial;exact JU):p:=h
theorem A7P(h:p:=by
 obtain ⟨kd,ky,ch,tt,am,fe,ys⟩:=ev;have hnx:Hid (Ee (SS.take (k+1))=EE ++ [⟨kd,ky,ch,tt,am,fe,ys⟩]):=by unfold Hid;rw [hgo.out,hev2,HEE.out];rfl
 dsimp only;go_upto_region 8 with fail
 refine cW fun w7 P7 b7 => ?_;obtain ⟨p0,p1,p2,p3,p4,p5,p6⟩:=P7.c7;have ho7:=ho6.keep b7;have hB7:=AD b7 hB6;have hR7:=hR6.keep b7;have z7:=hB7.size;clear ho6 b7 hB6 hR6 hev2 hgo;go_wp2_with (at_builtin;refine Df Js Tryz.underlying58 rfl dC dC (fun _=>rfl) LJ rfl _ _ rfl w0 _ EE rfl (ho7.alloc _) _ ⟨kd,ky,ch,tt,am,fe,ys⟩ rfl (BC _ _ _ rfl) oM (Nat.le_trans z7 (Aj _ _)) ?_)
 intro v8 w8 O8 b8 g8;obtain ⟨E2,hE2⟩:∃ l,l=EE ++ [(⟨kd,ky,ch,tt,am,fe,ys⟩:Ev)]:=⟨_,rfl⟩;rw [← hE2] at O8 hnx;obtain ⟨a8,c8,rfl,-⟩:=AC.of (ok:=fun _=>True) O8 (fun _ _=>trivial);have hB8:Below w0 w0 w8:=hB7.trans (((Ae (Below.refl _ w7) _).mono z7).trans b8);have hR8:ON Dp w8 w (.slice (some ⟨g,off,none⟩) s cr) SS us:=(hR7.keep (bA w7 [kd,ky,ch,tt,am,fe,ys] 73)).kept (Ex.of_grown g8) (fun b hb hm=>Yd dC dC (ho7.alloc (.cells #[kd,ky,ch,tt,am,fe,ys] 73)) (hR7.keep (bA w7 [kd,ky,ch,tt,am,fe,ys] 73)) b hm hb);have HE2:=lH hE2;clear ho7 hR7 p0 p1 p2 p3 p4 p5 p6 P7 g8 b8 hE2;go_wp2;go_roundw
 case rel=>exact ⟨k+1,AA,Ab,by rw [hnx.out];exact O8,hB8,hR8⟩
 case measure=>simp only [intOf];omega):p:=h
theorem gS(h:p:=by
 refine LN rfl (fun K hK => ?_) Em.nil;have A7Q:=trivial;exact Lm):p:=h
theorem A7R(h:p:=by
 have A7S:=trivial;exact gT):p:=h
theorem gU(h:p:=by
 have e9:(cl+cr+oo+ii != cz)=true:=by rw [bne_iff_ne];exact fun e=>hsum e.symm
 have hno:Hid (Ak b=false):=LK (QJ hx.out (Qr dH));clear hsum;have A7T:=trivial;exact Sm):p:=h
theorem gV(h:p:=by
 obtain ⟨p0,p1,p2,p3,p4,p5⟩:=PX6.c6;have x0:=P6.cell 0 _ rfl;have CT:=uR _ _ _ b ci wg V6 hPk;have hbo:=YD hPk ci;have hbi:=V7 hPk ci;exact gM):p:=h
theorem gW(h:p:=by
 have A7U:=trivial;exact OP):p:=h
theorem gY(h:p:=by
 obtain ⟨rfl,b01⟩:=hcut;obtain ⟨w1,hw1⟩:∃ x,x=wc:=⟨_,rfl⟩;subst hw1;have H5:=H5.keep b01;have PE:=PE.keep b01;have UA:=UA.keep b01;have UD:=UD.keep b01;have WX:=WX.trans (Wf.of_below b01);clear CR V0 P0 b01 ds0 ds1 ds2 ds3 ds4 ds5 due4 due6 dua0 dua1 dua2 dua3 dua4 dua5 dua6 dud0 dud1 dud2 dud3 dud4 dud5 dud6 BD HD PD D7 DF D_ue D_ua D_ud;obtain ⟨w0,hw0⟩:∃ x,x=w1:=⟨_,rfl⟩;rw [← hw0] at H5 WX PE UA UD ⊢;clear hw0;go_upto_region 7 with fail
 obtain ⟨y0,z0,l0,P0,V0,-⟩:=H5.cells
 have hcd:cd=AG (decide (rv=0)) 13 (AG (decide (D.loc<am)) 12 (AG (decide (A.rem<am+fv)) 11 (AG (!(fb && okv)) 10 0))):=by
  have hk:CE am fv=okv:=by
   rcases HSV.out with ⟨h1,-,h3⟩ | ⟨h1,-,h3⟩<;>rw [h1,h3]
  rw [HC2.out,← HFV.out,← HFB.out,← HRV.out,hk]
 have HC3:=lH hcd;clear hcd HC2;have p7:w0.cell? ⟨g,7,none⟩=.some I0:=P0.cell 7 _ rfl;have f7:=P0.fz 7 AF;have e4:=PE.cell 4 _ rfl;have ua3:=UA.cell 3 _ rfl;have ud2:=UD.cell 2 _ rfl;go_cut [132] (fun v wq=>v = .bool (cd != 0)∧Wk F (.slice (some ⟨gx,0,none⟩) n cx) wq g B b [] cd∧Wf g F F w0 wq)
 first
 |clear A7V
  case first =>
   cases fb with
   | false =>
    exact gZ
   | true =>
    cases okv with
    | false =>
     exact gZ
    | true =>
     have A7W:=trivial;exact gc
  case rest =>
   have A7X:=trivial;exact Sn
 |case first =>
   cases fb with
   | false =>
    exact ge
   | true =>
    cases okv with
    | false =>
     exact ge
    | true =>
     exact gc
  case rest =>
   exact Sn):p:=h
theorem fG(h:p:=by
 have BD:Below w6 w6 w6.drew:=Below.drew (Below.refl _ _);have VD:=V3.keep BD;exact gf):p:=h
theorem gg(h:p:=by
 intro v10 w10 o10 b10 g10;rw [HINS.out] at o10;obtain ⟨a10,c10,rfl,-⟩:=AC.of (ok:=fun _=>True) o10 (fun _ _=>trivial);have B10:Below wz wz w10:=Below.trans B9 b10;have P10:=PP.keepL B10 hgr;have Q10:=Q.keepL B10 hul;have p10:=P10.cell 3 _ rfl;have z10:=P10.fz 3 AF;obtain ⟨q100,q101,q102,q103,q104,q105,q106⟩:=Q10.c7;have A7Y:=trivial;exact gh):p:=h
theorem gi(h:p:=by
 clear hx ht hok hsum;exact Sm):p:=h
theorem gj(h:p:=by
 have H4:=lH h4;clear h2 h1 h4 h5;have e0:(q0 == 0)=false:=Le;clear h3;obtain ⟨ia,a,ha1,ai,aid,aget,ialt⟩:=EH hi1;obtain ⟨jd,d,-,di,did,dget,-⟩:=EH hi2;have A7Z:=trivial;exact gk):p:=h
theorem A7a(h:p:=by
 go_wp2_with fail
 have A7b:=trivial;exact So):p:=h
theorem gl(h:p:=by
 clear c0 c1 c2 ho hU b5 hB hR;go_wp2_with fail
 refine CB.mono ?_;rintro e w6 ⟨hq,b6⟩;have ho6:=ho5.keep b6;have hB6:=AD b6 hB5;have hR6:=hR5.keep b6;clear CB q2 P5 ho5 hB5 hR5 b6;rcases hq with ⟨ev,hev2,rfl⟩ | ⟨hev2,rfl⟩
 ·exact A7P
 have hnx:Hid (Ee (SS.take (k+1))=EE):=by unfold Hid;rw [hgo.out,hev2,HEE.out];simp
 go_upto_region 7 with fail
 have b7:=bA w6 [I0,I0,I0,I0,I0,I0,false] 73;generalize w6.alloc (.cells #[I0,I0,I0,I0,I0,I0,false] 73)=w7 at b7 ⊢;have ho7:=ho6.keep b7;have hB7:=AD b7 hB6;have hR7:=hR6.keep b7;clear ho6 hB6 hR6 b7 hev2 hgo;go_wp2;go_roundw
 case rel=>exact ⟨k+1,AA,Ab,by rw [hnx.out];exact ho7,hB7,hR7⟩
 case measure=>simp only [intOf];omega):p:=h
theorem gm(h:p:=by
 clear hne;by_cases h0:x.key=y.key;rotate_left
 ·have e0:(x.key == y.key)=false:=A8;clear hxy;exact Lp
 have e0:(x.key == y.key)=true:=A8;by_cases h1:x.frm=y.frm;rotate_left
 ·have e1:(x.frm == y.frm)=false:=BG;clear hxy h0;exact Lp
 have e1:(x.frm == y.frm)=true:=BG;by_cases h2:x.tw=y.tw;rotate_left
 ·have e2:(x.tw == y.tw)=false:=Cs;clear hxy h0 h1;exact Lp
 have e2:(x.tw == y.tw)=true:=Cs;by_cases h3:x.amt=y.amt;rotate_left
 ·have e3:(x.amt == y.amt)=false:=Fo;clear hxy h0 h1 h2;exact Lp
 have e3:(x.amt == y.amt)=true:=Fo;by_cases h4:x.fee=y.fee
 ·have e4:(x.fee == y.fee)=true:=Fp;exact KQ
 have e4:(x.fee == y.fee)=false:=Fp;clear hxy h0 h1 h2 h3;exact Lp):p:=h
theorem Sp(h:p:=by
 have he:=hz.out;rw [hx.out] at he
 injection he with he
 injection he with e0 e1 e2 e3 e4 e5 e6
 subst e0 e1 e2 e3 e4 e5 e6;clear o0 o1 o2 o3 o4 o5 o6 p0 p1 p2 p3 p4 p5 p6 hx ht hz;exact Sq):p:=h
theorem gn(h:p:=by
 obtain ⟨a',n',c',e,-,-,-,-,hat⟩:=(V.keep hBw).at_;exact DL):p:=h
theorem go(h:p:=by
 clear HK WK P2 p3;obtain ⟨k2,hk2,rfl,HL,WL⟩:=hrel;obtain ⟨y3,z3,l3,P3,V3,-⟩:=HL.cells;have p3:=P3.cell 3 _ rfl;have p0:wr.cell? ⟨g,0,none⟩=some (.int .i64 (b.tick+1)):=P3.cell 0 _ rfl;by_cases hlt2:k2<n2;rotate_left
 ·rw [Vh _ b.chans SG] at HL
  have hfin:Hid (b.chans.map (fun c=>if (b.tick+1) % 5=0 then Ef c else c)=if (b.tick+1) % 5=0 then b.chans.map Ef else b.chans):=by
   unfold Hid;by_cases h5:(b.tick+1) % 5=0
   ·simp only [h5,if_true]
   simp only [h5,if_false,List.map_id']
  rw [hfin.out] at HL;rw [HQQ.out] at HL;clear hfin;go_wp2;go_end0
  exact ⟨rfl,HL,WL⟩
 obtain ⟨a1,n1,c1',e,-,-,hr⟩:=HL.row;have A7c:=trivial;exact DL):p:=h
theorem Z4(h:p:=by
 obtain ⟨t1,u1,v1,cs1,hs1,zs1⟩:=a;obtain ⟨t2,u2,v2,cs2,hs2,zs2⟩:=b;generalize hP:(Ak (⟨t1,u1,v1,cs1,hs1,zs1⟩:Bk)=true∧Ak (⟨t2,u2,v2,cs2,hs2,zs2⟩:Bk)=true∧(⟨t1,u1,v1,cs1,hs1,zs1⟩:Bk)=(⟨t2,u2,v2,cs2,hs2,zs2⟩:Bk))=P;exact Z3):p:=h
theorem gp(h:p:=by
 clear hv HC3 HC4;refine wp_region_noPanic ?_;refine wp_region_held_drew (S:=fun w'=>(w'.cell? ⟨ub,2,none⟩=.some b.wallet∧w'.cell? ⟨ub,3,none⟩=some (.slice (some ⟨gx,off,none⟩) n cx)∧w'.cell? ⟨ue,5,none⟩=.some fe)∧w'.cell? ⟨gx,off+i*7+2,none⟩=.some A.loc) kR ?_ (fun hHeld => ?_)
 ·exact Bc
 have A7d:=trivial;exact Gt):p:=h
theorem gt(h:p:=by
 have HA:=lH hA;have HOV:=lH hov;clear hcode ho hA hov;have hcl:b.chans.length≤20:=hb.n20;have bA:=MO hb ch;rw [← HA.out] at bA;obtain ⟨bA1,bA2,bA3,bA4⟩:=bA;unfold Am at bA1 bA2 bA3;have A7e:=trivial;exact gu):p:=h
theorem gz(h:p:=by
 refine tN 4 ?_;refine tN 5 ?_;refine tN 6 ?_;refine tK 7 ?_;refine tK 8 ?_;have A7f:=trivial;exact Sr):p:=h
theorem hJ(h:p:=by
 refine wp_region_noPanic ?_;refine wp_region_held_drew (S:=fun w'=>w'.cell? ⟨g,7,none⟩=.some cd) kR ?_ (fun hHeld => ?_)
 ·exact Bc
 have A7g:=trivial;exact Gt):p:=h
theorem Ss(h:p:=by
 have A7h:=trivial;exact KR):p:=h
theorem iA(h:p:=by
 rintro e w3 ⟨⟨F,x1,y1,z1,rfl,O1⟩,bb⟩;obtain ⟨⟨a1,n1,k1,rfl⟩,⟨a2,n2,k2,rfl⟩,⟨a3,n3,k3,rfl⟩⟩:=O1.form;have g4z:g4+1≤w2.heap.size:=P4.lt;have P4:=P4.keep bb;have b6:=AD bb b5;have O1:=O1.le (B':=g4+1) g4z;clear g4z;have g4l:=P4.lt;clear p0 p1 p2 p3 p4 p5 P2 bb b5 b4 hc hh ho;go_upto_region 4 with fail
 refine cZ fun w4 Q0 b7 hz4 => ?_;have hF0:w3.heap.size∉F:=fun hm=>by have:=(O1.lt _ hm).2;omega
 have P4:=P4.keep b7;have B4:=AD b7 b6;have O4:=O1.keep b7;have hob1:=b6.size;obtain ⟨ob,hob⟩:∃ n,n=w3.heap.size:=⟨_,rfl⟩;rw [← hob] at Q0 hF0 hz4 g4l hob1 ⊢;replace hz4:ob+1≤w4.heap.size:=AA;clear O1 b6 b7 hob z2
 first
 |clear A7i
  go_wp2;have C4:AC DI 1 3 w4 (ob+1) (.slice none 0 0) []:=AC.nil _ _;have S4:ON F8 w4 (ob+1) (.slice none 0 0) [] []:=ON.nil _ _;have B45:=Below.refl ob w4;have hz6:=hz4;have P46:=P4;go_loopw [8,9,11,12,13,14,23] (fun vp vc _ _ _ _ i wr=>∃ (k:Nat) (S:Aa) (x y z:Value) (F:List Nat) (us:List Value),k≤nv∧i=k∧Hid (Dt b es k=S)∧Bx wr ob [S.book.tick,S.book.next,S.book.wallet,x,y,z]∧Ai F wr (g4+1) x y z S.book∧ob∉F∧ON F8 wr (ob+1) vp S.ps us∧AC DI 1 3 wr (ob+1) vc S.codes∧Below ob w4 wr) (fun _ _ _ _ _ _ i _=>nv - (intOf i).toNat)
  case atStart=>exact ⟨0,⟨b,[],[]⟩,_,_,_,F,[],Nat.zero_le _,rfl,rfl,Q0,O4,hF0,S4,C4,B45⟩
  case round =>
   have A7j:=trivial;exact iB
 |go_upto_region 5 with fail
  have S4:ON F8 (w4.alloc (.cells #[] 125)) (ob+1) (.slice (some ⟨w4,0,none⟩) 0 0) [] []:=ON.made2 w4 (ob+1) hz4;have b8:=bA w4 [] 125;generalize w4.alloc (.cells #[] 125)=w5 at S4 b8 ⊢;have z5:=b8.size;go_upto_region 6 with fail
  have C4:AC DI 1 3 (w5.alloc (.cells #[] 3)) (ob+1) (.slice (some ⟨w5,0,none⟩) 0 0) []:=AC.made w5 (ob+1) oM;have b9:=bA w5 [] 3;generalize w5.alloc (.cells #[] 3)=w6 at C4 b9 ⊢;have S4:=S4.keep b9;have B45:Below ob w4 w6:=(AD b9 b8).mono oM;have P46:=P4;have Q0:=(Q0.keep b8).keep b9;have O4:=(O4.keep b8).keep b9;clear b8 b9 z5;go_wp2;go_loopw [8,9,11,12,13,14,25] (fun vp vc _ _ _ _ i wr=>∃ (k:Nat) (S:Aa) (x y z:Value) (F:List Nat) (us:List Value),k≤nv∧i=k∧Hid (Dt b es k=S)∧Bx wr ob [S.book.tick,S.book.next,S.book.wallet,x,y,z]∧Ai F wr (g4+1) x y z S.book∧ob∉F∧ON F8 wr (ob+1) vp S.ps us∧AC DI 1 3 wr (ob+1) vc S.codes∧Below ob w4 wr) (fun _ _ _ _ _ _ i _=>nv - (intOf i).toNat)
  case atStart=>exact ⟨0,⟨b,[],[]⟩,_,_,_,F,[],Nat.zero_le _,rfl,rfl,Q0,O4,hF0,S4,C4,B45⟩
  case round =>
   exact iB):p:=h
theorem iC(h:p:=by
 refine cJ fun w6 RX bx hz6 => ?_;refine cV hz6 fun w7 SX by_ => ?_;replace RX:=RX.keep by_;replace bx:=AD by_ bx;obtain ⟨ub7,hu7⟩:∃ u,u=w5.heap.size:=⟨_,rfl⟩;obtain ⟨ub8,hu8⟩:∃ u,u=w5.heap.size+1:=⟨_,rfl⟩;rw [← hu8] at SX ⊢;rw [← hu7] at RX ⊢;clear hu7 hu8 hz6 by_ u0 u1 u2 u3 u4 u5 u6 u7 u8 u9 u10 u11 u12 u13 d0 d1;replace PX:=PX.keep bx;replace DX:=DX.keep bx;replace VX:=VX.keep bx;replace EV:=EV.keep bx;have RV:=O5.vw.keep bx;have SV:=L5.vw.keep bx;have A7k:=trivial;exact iD):p:=h
theorem iE(h:p:=by
 have A7l:=trivial;exact Gu):p:=h
theorem iF(h:p:=by
 rintro e w7 ⟨gx2,nx2,cx2,jd,d,hxe,-,di,did,-,rfl,b6⟩;have e1:gx1=gx2:=A5p;subst e1;clear hxe;have A7m:=trivial;exact iG):p:=h
theorem iH(h:p:=by
 replace H0:=lH H0.symm;replace H1:=lH H1.symm;replace H2:=lH H2.symm;replace H3:=lH H3.symm;replace H4:=lH H4.symm;go_enter Tryz.func148,Tryz.ntmps148
 go_wp2_with fail
 refine (wN _ _).mono ?_;rintro e w1 ⟨⟨g,rfl,F⟩,b1⟩;rw [hh] at F;have B1:=AD b1 (bW:Below w w _);obtain ⟨hc0,hf0,hs0,hz0⟩:=AS b1;have c:=fun (j:Nat) (v:Bool) (hj : [h0,h1,h2,h3,h4,h5][j]? = some v)=>Hw.cell F j v hj;have c0:=c 0 h0 rfl;have c1:=c 1 h1 rfl;have c2:=c 2 h2 rfl;have c3:=c 3 h3 rfl;have c4:=c 4 h4 rfl;have c5:=c 5 h5 rfl;clear c F hh hl
 first
 |clear A7n
  have d0:w1.cell? ⟨w,0,none⟩=some (.int .i64 4):=Ig;exact iI
 |have d0:w1.cell? ⟨w,0,none⟩=.some k:=Ig;exact iI):p:=h
theorem iI(h:p:=by
 have d1:w1.cell? ⟨w,1,none⟩=.some key:=Ig;have d2:w1.cell? ⟨w,2,none⟩=.some ch:=Ig;have d3:w1.cell? ⟨w,3,none⟩=.some too:=Ig;have d4:w1.cell? ⟨w,4,none⟩=.some amt:=Ig;have d5:w1.cell? ⟨w,5,none⟩=.some fee:=Ig;have d6:w1.cell? ⟨w,6,none⟩=.some yes:=Ig;have hsp:v0=false∨(v0=true∧v1=false)∨(v0=true∧v1=true∧v2=false)∨(v0=true∧v1=true∧v2=true):=by cases v0<;>cases v1<;>cases v2<;>simp
 rcases hsp with rfl | ⟨rfl,rfl⟩ | ⟨rfl,rfl,rfl⟩ | ⟨rfl,rfl,rfl⟩
 iterate 3
  ·exact iJ
 have hsq:(v3=false)∨(v3=true∧v4=false)∨(v3=true∧v4=true∧h5=true)∨(v3=true∧v4=true∧h5=false∧yes=false)∨(v3=true∧v4=true∧h5=false∧yes=true):=by cases v3<;>cases v4<;>cases h5<;>cases yes<;>simp
 have hsr:h2=false∨(h2=true∧ch=too)∨(h2=true∧¬ ch=too):=by cases h2<;>by_cases h:ch=too<;>simp [h]
 rcases hsr with rfl | ⟨rfl,rfl⟩ | ⟨rfl,ct⟩
 ·exact iK
 ·have ct1:decide (ch=ch)=true:=decide_eq_true rfl;rw [ct1] at hr;clear hsq;exact iJ
 have ct1:decide (ch=too)=false:=decide_eq_false ct;rw [ct1] at hr;have ct2:((ch:Int) == too)=false:=by simp [ct]
 exact iK):p:=h
theorem iL(h:p:=by
 have A7o:=trivial;exact Bh):p:=h
theorem bF(h:p:=by
 have A7p:=trivial;exact Ni):p:=h
theorem iM(h:p:=by
 obtain ⟨k,hk,rfl,rfl,hp,hB⟩:=hrel;have hfew:=Va hp.out;have hsum:=uv hp.out;have hkf:k<len→k≤302:=fun h=>by have:=Hln.out;rw [List.length_take] at hfew;omega
 generalize hT:Br (xs.take k)=T at hsum ⊢;by_cases hlt:k<len;rotate_left
 ·have e:xs.take k=xs:=List.take_of_length_le (by have:=Hln.out;omega);rw [e] at hp hT;have He:=lH (A1a hp.out);have HT:=lH hT;clear hT e;go_wp2
  all_goals
   go_ret
   exact ⟨Ag (by rw [He.out,HT.out];first | rfl | simp_all),hB⟩
 obtain ⟨g,off,kd,ch,amt,rfl,hg,c0,c1,c2,o0,o1,o2,hx,ht⟩:=GE.cells (FS.keep hs hB) hlt;have hk3:=hkf hlt;have HT:=lH hT;clear o0 o1 o2 hT hkf hfew;go_wp2;have BW:Below w w (wr.alloc (.cells #[kd,ch,amt] 178)):=Ae hB _;have BX:Below wr wr (wr.alloc (.cells #[kd,ch,amt] 178)):=Ae (Below.refl _ _) _;have f0:(wr.alloc (.cells #[kd,ch,amt] 178)).cell? ⟨wr,0,none⟩=.some kd:=J6;have f1:(wr.alloc (.cells #[kd,ch,amt] 178)).cell? ⟨wr,1,none⟩=.some ch:=J6;have f2:(wr.alloc (.cells #[kd,ch,amt] 178)).cell? ⟨wr,2,none⟩=.some amt:=J6;generalize wr.alloc (.cells #[kd,ch,amt] 178)=W1 at BW BX f0 f1 f2 ⊢;cases hA:Eh kd ch
 first
 |clear A7q
  ·have ACC:=fun w=>Qb kd ch w;simp only [hA] at ACC;have Hf:=lH (Iz (l:=xs) ht.out (by simp [Cl,hA]));exact Su
  have ACC:=fun w=>Qb kd ch w;simp only [hA] at ACC;by_cases hk0:k=0
  ·have A7r:=trivial;exact iN
  have A7s:=trivial;exact iO
 |·have ACC:=fun w=>Qq kd ch w;simp only [hA] at ACC;have Hf:=lH (Iz (l:=xs) ht.out (by simp [Cl,hA]));exact Sv
  have ACC:=fun w=>Qq kd ch w;simp only [hA] at ACC;by_cases hk0:k=0
  ·exact iN
  exact iO):p:=h
theorem iP(h:p:=by
 have A7t:=trivial;exact Lq):p:=h
theorem iQ(h:p:=by
 have A7u:=trivial;exact KS):p:=h
theorem iR(h:p:=by
 have A7v:=trivial;exact Lq):p:=h
theorem iS(h:p:=by
 have HOK:=lH hok;clear hok;go_wp2_with fail
 refine C3.mono ?_;rintro e w3 ⟨⟨v3,rfl,O3⟩,b3⟩;obtain ⟨SB,hSB⟩:∃ l,l=Ep ⟨kd,ky,ch,tt,am,fe,ys⟩:=⟨_,rfl⟩;have hSl:SB.length=22:=by rw [hSB];exact wn _
 rw [← hSB] at O3;obtain ⟨a3,n3,c3,rfl,hn3,-⟩:=VS.form O3.vs;have hn3:n3=22:=AA;have A7w:=trivial;exact iT):p:=h
theorem Sw(h:p:=by
 have A7x:=trivial;exact Il):p:=h
theorem br(h:p:=by
 obtain ⟨k,hk,rfl,hall,hB⟩:=hrel;have hBw:=AD hB B3;have AX:=AX.keep hB;obtain ⟨a0,a1⟩:=AX.c2;have hal:=AX.lt;by_cases hlt:k<n;rotate_left
 ·have hres:Hid (Bj l kd ch=0):=A53;go_wp2;go_ret;exact ⟨CD FI,bW⟩
 obtain ⟨g,off,x,rfl,hg,-,⟨c0,c1,c2⟩,hx,ht⟩:=BE.at_ (VX.keep hB) hlt;by_cases h1:x.kind=kd;rotate_left
 ·have hgo:=lH (IQ (p:=fun y:Ln=>decide (y.kind=kd∧y.ch=ch)) ht.out hall.out BG);clear hx ht;go_wp2;go_roundw
  case rel=>exact ⟨k+1,AA,Ab,hgo,bW⟩
  case measure=>simp only [intOf];omega
 by_cases h2:x.ch=ch
 ·have hres:Hid (Bj l kd ch=x.amt):=A54;clear hx ht;go_wp2;go_ret;exact ⟨CD FI,bW⟩
 have hgo:=lH (IQ (p:=fun y:Ln=>decide (y.kind=kd∧y.ch=ch)) ht.out hall.out Cs);clear hx ht;go_wp2;go_roundw
 case rel=>exact ⟨k+1,AA,Ab,hgo,bW⟩
 case measure=>simp only [intOf];omega):p:=h
theorem iU(h:p:=by
 obtain ⟨k,hk,rfl,hall,hsort,hB⟩:=hrel;have hBw:=AD hB B0;have PX:=P0.keep hB;clear p3 P1 b1 B1;by_cases hlt:k<n;rotate_left
 ·have hres:Hid (Ak b=true):=by
   unfold Hid;rw [hbook.out];unfold Fy;have h1:=hall.out;have h2:=hsort.out;rw [show k=n from AA,List.take_of_length_le (l:=b.chans) Cb] at h1 h2;rw [h1,(NS _).2 h2];rfl
  go_wp2;go_ret;exact ⟨Ag FI,hBw⟩
 obtain ⟨g,off,x,rfl,hg,-,⟨c0,c1,c2,c3,c4,c5,c6⟩,hx,ht⟩:=Bz.at_ (V0.keep hB).chans hlt;obtain ⟨ci,cz,cl,cr,cb,cp,cs⟩:=x;dsimp only at c0 c1 c2 c3 c4 c5 c6;go_upto_region 6 with fail
 have A7y:=trivial;exact Sx):p:=h
theorem iV(h:p:=by
 rintro e w5 ⟨⟨F5,G5,x5,y5,z5,l5,rfl,O5,L5⟩,bx⟩;have A7z:=trivial;exact OQ):p:=h
theorem iW(h:p:=by
 have A70:=trivial;exact Il):p:=h
theorem Z3(h:p:=by
 have HP:=lH hP;clear hP;obtain ⟨ax1,n1,cx1,rfl,hn1,-⟩:=VS.form V.chans;obtain ⟨ay1,m1,cy1,rfl,hm1,-⟩:=VS.form V.htlcs;obtain ⟨az1,q1,cz1,rfl,hq1,-⟩:=VS.form V.circles;obtain ⟨ax2,n2,cx2,rfl,hn2,-⟩:=VS.form U.chans;obtain ⟨ay2,m2,cy2,rfl,hm2,-⟩:=VS.form U.htlcs;obtain ⟨az2,q2,cz2,rfl,hq2,-⟩:=VS.form U.circles;have HN1:=lH hn1;have HM1:=lH hm1;have HQ1:=lH hq1;have HN2:=lH hn2;have HM2:=lH hm2;have HQ2:=lH hq2;have hnB:=VS.lenB V.chans;have hmB:=VS.lenB V.htlcs;have hqB:=VS.lenB V.circles;clear hn1 hm1 hq1 hn2 hm2 hq2
 first
 |clear A3e
  go_enter Tryz.func70,Tryz.ntmps70
  have A71:=trivial;exact OP
 |first
  |clear A3f
   (go_enter Tryz.func127,Tryz.ntmps127);have A72:=trivial;exact OP
  |(go_enter Tryz.func66,Tryz.ntmps66);exact OP):p:=h
theorem iX(h:p:=by
 have b0g:=fun g:Grew wr=>g.cell b0;have b1g:=fun g:Grew wr=>g.cell b1;have b2g:=fun g:Grew wr=>g.cell b2;exact iY):p:=h
theorem iZ(h:p:=by
 clear hK K;exact ib):p:=h
theorem Rm(h:p:=by
 have A73:=trivial;exact Rg):p:=h
theorem A74(h:p:=by
 obtain ⟨k,hk,rfl,hall,hC⟩:=hrel;have hBw:=AD hC B0;by_cases hlt:k<q;rotate_left
 ·have hres:Hid (DH b ch=false):=by
   have h2:=hall.out;rw [show k=q from AA,List.take_of_length_le (l:=b.circles) KG] at h2;unfold Hid DH;rw [(JA (p:=fun y:Ht=>decide (y.inn=ch∨y.out=ch)) hA.out).2.2,(JA (p:=fun y:Ci=>decide (y.frm=ch∨y.tw=ch)) h2).2.2];rfl
  exact GM
 obtain ⟨g,off,x,rfl,hg,-,⟨d0,d1,d2,d3,d4⟩,hx,ht⟩:=DA.at_ (V0.keep hC).circles hlt;by_cases h1:x.frm=ch
 ·have e1:(x.frm == ch)=true:=BG;have hres:Hid (DH b ch=true):=YJ hx.out (Or.inl h1);exact ic
 have e1:(x.frm == ch)=false:=BG;by_cases h2:x.tw=ch
 ·have e2:(x.tw == ch)=true:=Cs;have hres:Hid (DH b ch=true):=YJ hx.out (Or.inr h2);exact ie
 have e2:(x.tw == ch)=false:=Cs;have hgo:=lH (IQ (p:=fun y:Ci=>decide (y.frm=ch∨y.tw=ch)) ht.out hall.out Ri);exact ig):p:=h
theorem ij(h:p:=by
 clear h1;go_wp2_with (at_builtin;refine MT vF Tryz.underlying115 rfl dC dC A1B rfl _ _ rfl (ob+1) _ ps us rfl (psn.keep (Ae (Below.refl _ _) _)) _ (⟨pi,pl⟩:Po) (.slice al nl kl) rfl rfl (BC _ _ _ rfl) oM (Nat.le_trans hzo (Aj _ _)) dC (AC.alloc (AC.le Nn.own oM) _) HPI.out Nn.ok hup ?_)
 intro vpX wP NX bX gX;have bA:=bA wS [pi, .slice al nl kl] 125;have psA:=psn.keep bA;replace QS:=(QS.keep bA).keepL bX (Nat.lt_succ_self ob);replace On:=(On.keep bA).grown psA.row gX dC dC dC;replace csn:=AC.grownE (AC.keep csn bA) psA.row gX dC;replace hBn:=hBn.trans ((bA.mono oM).trans (bX.mono oM));replace hzo:ob+1≤wP.heap.size:=eN;obtain ⟨apX,cpX,hv,-,-⟩:=NX.form;obtain ⟨lpX,hlc⟩:∃ n,n=(ps ++ [(⟨pi,pl⟩:Po)]).length:=⟨_,rfl⟩;rw [← hlc] at hv;subst hv;clear hlc;replace psn:=NX;clear NX bX gX bA psA P13 Nn x0 x1
 first
 |clear A75
  go_wp2;go_roundw
  case rel=>exact ⟨k+1,⟨b2,ps ++ [⟨pi,pl⟩],cs ++ [0]⟩,_,_,_,F6,(us ++ [_]),AA,Ab,hnx,QS,On.le hwb,hF6,psn,csn,hBn⟩
  case measure=>simp only [intOf];omega
 |exact ik):p:=h
theorem il(h:p:=by
 refine tK 9 ?_;refine tH 10 fun K hK => ?_;have A76:=trivial;exact FV):p:=h
theorem cC(h:p:=by
 obtain ⟨up,hub,dk,tk,st,cd⟩:=W;have A77:=trivial;exact Rn):p:=h
theorem bv(h:p:=by
 obtain ⟨ac,nc,cc,rfl,hnc1,-,hnc,hncm,-⟩:=V.log.disk.cells.at_;exact cB):p:=h
theorem im(h:p:=by
 have e:((j+1:Nat):Int) - 1=(j:Int):=AA;rw [e];exact fy):p:=h
theorem io(h:p:=by
 obtain ⟨g,off,ev,rfl,hg,hok,c0,c1,c2,c3,c4,c5,c6,hx,ht⟩:=VS.at7 (E.keep hBw) hlt;obtain ⟨kd,ky,ch,tt,am,fe,ys⟩:=ev;dsimp only at c0 c1 c2 c3 c4 c5 c6;have hgo:=lH (wj (b:=b) ht.out);clear hok hx ht;go_upto_region 9 with fail
 refine cW fun w5 P5 b5 => ?_;have hzr:=hB.size;have Q5:=Q.keep b5;have O5:=O.keep b5;have ps5:=hps.keep b5;have cs5:=hcs.keep b5;have hB5:Below ob w4 w5:=hB.trans (b5.mono oM);clear c0 c1 c2 c3 c4 c5 c6 q0 q1 q2 q3 q4 q5 Q O hps hcs hB b5;have hz5:=hB5.size;obtain ⟨q0,q1,q2,q3,q4,q5⟩:=Q5.c6;obtain ⟨p0,p1,p2,p3,p4,p5,p6⟩:=P5.c7
 first
 |clear A78
  have CA:=A1q _ _ _ bk kd ky ch tt am fe ys w5 O5.vw hbok;have A6S:=trivial;exact el
 |have CA:=wu _ _ _ bk kd ky ch tt am fe ys w5 O5.vw hbok;exact el):p:=h
theorem ip(h:p:=by
 rintro e w2 ⟨⟨v2,us,rfl,R2⟩,b2⟩;have O2:=O1.keep b2;have R2:=R2.le (B':=w.heap.size) B1.size;have b02:=AD b2 b1;have hrb:=Wa d;obtain ⟨SS,hSS⟩:∃ l,l=BQ d:=⟨_,rfl⟩;have hev:Hid (Av d=Ee SS):=by rw [hSS];rfl
 rw [← hSS] at R2 hrb;obtain ⟨hrb1,hrb2⟩:=hrb;have HR:=lH hrb1;obtain ⟨ar,cr,rfl,-,-⟩:=R2.form;obtain ⟨s,hs⟩:∃ s,s=SS.length:=⟨_,rfl⟩;rw [← hs] at hrb2 R2 ⊢;have HS:=lH hs.symm;have z02:=b02.size;clear O1 P1 p0 p1 hSS hrb1 hs B1 b1 b2;go_wp2
 first
 |clear A79
  go_loopw [5,7,8,9,17] (fun out _ _ _ i wr=>∃ k:Nat,k≤s∧i=k∧M7 wr w0 out (Ee (SS.take k))∧Below w0 w0 wr∧ON Dp wr w (.slice ar s cr) SS us) (fun out _ _ _ i _=>s - (intOf i).toNat)
  case atStart=>exact ⟨0,Nat.zero_le _,rfl,O2,b02,R2⟩
  case round =>
   have A8A:=trivial;exact fk
 |go_loopw [3,7,8,9,18] (fun out _ _ _ i wr=>∃ k:Nat,k≤s∧i=k∧M7 wr w0 out (Ee (SS.take k))∧Below w0 w0 wr∧ON Dp wr w (.slice ar s cr) SS us) (fun out _ _ _ i _=>s - (intOf i).toNat)
  case atStart=>exact ⟨0,Nat.zero_le _,rfl,O2,b02,R2⟩
  case round =>
   exact fk):p:=h
theorem iq(h:p:=by
 refine (xU g 3 w1 p7 f7).mono ?_;rintro e w2 ⟨rfl,hw2⟩;have FC:=H1.setCode 3;have PS:=P1.set1 7 (.int .i64 3) AF;have QS:=PE1.otherC g 7 (.int .i64 3) hneq;rw [hw2] at FC PS QS;obtain ⟨s0,s1,s2,s3,s4,s5⟩:=PS.c6;have s6:=QS.cell 2 _ rfl;clear hw2;exact ir):p:=h
theorem OS(h:p:=by
 clear p1;exact iu):p:=h
theorem Sy(h:p:=by
 have A8B:=trivial;exact Gt):p:=h
theorem iv(h:p:=by
 have A8C:=trivial;exact OE):p:=h
theorem JU(h:p:=by
 have r0:=RB.cell 0 _ rfl;have x0:=RB.fz 0 AF;have r1:=RB.cell 1 _ rfl;have x1:=RB.fz 1 AF;have r2:=RB.cell 2 _ rfl;have x2:=RB.fz 2 AF;have r3:=RB.cell 3 _ rfl;have x3:=RB.fz 3 AF;have r4:=RB.cell 4 _ rfl;have x4:=RB.fz 4 AF;have r5:=RB.cell 5 _ rfl;have x5:=RB.fz 5 AF;have s0:=RP.cell 0 _ rfl;have y0:=RP.fz 0 AF;have s1:=RP.cell 1 _ rfl;have y1:=RP.fz 1 AF
 first
 |clear A8D
  go_upto_region 29 with fail
  have A8E:=trivial;exact hJ
 |clear A8F
  have hgl8:=PQ.lt;have hrl:=RB.lt;have hpl8:=RP.lt;have FK:=((((((((H7.other nR 0 b7.tick).other nR 1 b7.next).other nR 2 b7.wallet).other nR 3 (.slice a7 n7 c7)).other nR 4 (.slice a8 n8 c8)).other nR 5 (.slice a9 n9 c9)).other nP 0 I0).other nP 1 (.slice none 0 0));clear hnl PQ;go_wp2;refine bodyPost_ret N5 rfl ?_;exact Bn.nil FK hB0 happ GK GK rfl (bW)
 |clear A6i
  go_upto_region 39 with fail
  exact hJ
 |clear A7O
  have hgl8:=PG.lt;have h2l:=U2.lt;have hrl:=RB.lt;have hpl8:=RP.lt;clear V8 PG
  first
  |clear A8G
   refine wp_region_noPanic ?_;refine wp_region_held_drew (S:=fun w'=>(w'.cell? ⟨g,0,none⟩=.some b7.tick∧w'.cell? ⟨g,1,none⟩=some (.int .i64 (b7.next+1))∧w'.cell? ⟨g,2,none⟩=.some b7.wallet∧w'.cell? ⟨g,3,none⟩=some (.slice a7 n7 c7)∧w'.cell? ⟨g,4,none⟩=some (.slice a8 n8 c8)∧w'.cell? ⟨g,5,none⟩=some (.slice a9 n9 c9))∧w'.cell? ⟨u2,0,none⟩=.some b7.next∧w'.cell? ⟨u2,1,none⟩=some (.slice al nl cl)) kR ?_ (fun hHeld => ?_)
   ·exact Bc
   have A8H:=trivial;exact Sy
  |first
   |clear A8I
    (go_upto_region 34 with fail);refine wp_region_noPanic ?_;refine wp_region_held_drew (S:=fun w'=>(w'.cell? ⟨g,0,none⟩=.some b7.tick∧w'.cell? ⟨g,1,none⟩=.some b7.next∧w'.cell? ⟨g,2,none⟩=.some b7.wallet∧w'.cell? ⟨g,3,none⟩=some (.slice a7 n7 c7)∧w'.cell? ⟨g,4,none⟩=some (.slice a8 n8 c8)∧w'.cell? ⟨g,5,none⟩=some (.slice a9 n9 c9))∧w'.cell? ⟨u2,0,none⟩=.some I0∧w'.cell? ⟨u2,1,none⟩=some (.slice none 0 0)) kR ?_ (fun hHeld => ?_)
    ·exact Bc
    have A8J:=trivial;exact Sy
   |refine wp_region_noPanic ?_;refine wp_region_held_drew (S:=fun w'=>(w'.cell? ⟨g,0,none⟩=.some b7.tick∧w'.cell? ⟨g,1,none⟩=some (.int .i64 (b7.next+1))∧w'.cell? ⟨g,2,none⟩=.some b7.wallet∧w'.cell? ⟨g,3,none⟩=some (.slice a7 n7 c7)∧w'.cell? ⟨g,4,none⟩=some (.slice a8 n8 c8)∧w'.cell? ⟨g,5,none⟩=some (.slice a9 n9 c9))∧w'.cell? ⟨u2,0,none⟩=.some b.next∧w'.cell? ⟨u2,1,none⟩=some (.slice al nl cl)) kR ?_ (fun hHeld => ?_)
    ·exact Bc
    exact Sy
 |go_wp2
  first
  |clear A8K
   refine bodyPost_ret N5 rfl ?_;refine Bn.no (XH hg) rfl ?_;exact bW
  |refine bodyPost_ret SF rfl ?_
   first
   |clear A8L
    refine Bn.no (QP hb hg (by rw [HC.out];decide)) ?_ ?_
    ·rw [HC.out]
    exact bW
   |refine Bn.no (XH hg) rfl ?_;exact bW):p:=h
theorem Sz(h:p:=by
 (try clear hZ);have A8M:=trivial;exact iw):p:=h
theorem S5(h:p:=by
 (try clear hZ);have A8N:=trivial;exact Lr):p:=h
theorem ix(h:p:=by
 have A8O:=trivial;exact Lq):p:=h
theorem S6(h:p:=by
 refine tK 31 ?_;refine tK 32 ?_;refine tH 33 fun K hK => ?_;go_simp;go_at_call 149
 refine (Dr g 14 _ Zc2).mono ?_;have A8P:=trivial;exact GN):p:=h
theorem iy(h:p:=by
 have A8Q:=trivial;exact Lq):p:=h
theorem iz(h:p:=by
 rintro e w9 ⟨⟨q2,rfl,hq2⟩,bx⟩;have HQ2:=lH hq2;clear hq2;have A8R:=trivial;exact OT):p:=h
theorem i7(h:p:=by
 have x1:=Q.cell 1 _ rfl;have x3:=Q.cell 3 _ rfl;have x4:=Q.cell 4 _ rfl;obtain ⟨hg,LI⟩:=LsIn.add LI (x:=⟨8,q1,-q3 - q4⟩) sM Cq uL sM;go_wp2_with fail
 refine (DJ _ _ g B _ _ 0 8 q1 (-q3 - q4) _ H5 hg).mono ?_;have A8S:=trivial;exact Im):p:=h
theorem i8(h:p:=by
 clear q0 z0;have Q2:=Q1.set1 1 ky AF;have P2:=P1.otherC bs 1 ky oM;have V2:=V1.putB (o:=1) (v := .int .i64 ky) (Nat.le_refl bs);have B2:Below w w (w1.setCell ⟨bs,1,none⟩ ky):=Below.setCell B1 GJ _;have l2:bs<(w1.setCell ⟨bs,1,none⟩ ky).heap.size:=JR;generalize w1.setCell ⟨bs,1,none⟩ ky=w2 at Q2 P2 V2 B2 l2 ⊢;have A8T:=trivial;exact JX):p:=h
theorem i9(h:p:=by
 rintro e w8 ⟨⟨q1,rfl,hq1⟩,bx⟩;have HQ1:=lH hq1;clear hq1;exact OT):p:=h
theorem jA(h:p:=by
 have A8U:=trivial;exact El):p:=h
theorem jB(h:p:=by
 have A8V:=trivial;exact Sd):p:=h
theorem ib(h:p:=by
 refine tK 23 ?_;refine tK 24 ?_;refine tN 25 ?_;have A8W:=trivial;exact jC):p:=h
theorem jD(h:p:=by
 have hall:Hid (Bo b es=⟨bk,ps,cs⟩):=A5z;obtain ⟨r0,r1,r2,r3,r4,r5⟩:=R4.c6;obtain ⟨y0,y1,y2,y3,y4,y5⟩:=R4.z6;have hr4:=R4.lt;have hg4o:g4≠ob:=AA;obtain ⟨wS,hwS⟩:∃ u,u=wr.setCells g4 0 [bk.tick,bk.next,bk.wallet, .slice a4 n4 k4, .slice a5 n5 k5, .slice a6 n6 k6]:=⟨_,rfl⟩;have FX:Ex [g4] wr wS:=SK;have hg4F:g4∉F2:=fun hm=>SE;have OF:=O.kept FX (fun k hk hm=>by simp at hm;subst hm;exact hg4F hk);have NF:=hps.kept FX (fun k hk hm=>by have:=(hps.lt k hk).1;simp at hm;omega);have CF:=AC.kept hcs FX (fun k hk hm=>by have:=(AC.blk hcs k hk).1;simp at hm;omega);have BF:Below w w wS:=hBw.trans (FX.below (fun k hk=>JN) (hBw.size));simp only [World.setCells,Nat.zero_add,Nat.reduceAdd] at hwS;clear FX hg4F;go_wp2
 first
 |clear A8X
  refine bodyPost_ret (by simp only [results,Tryz.results67];go_simp;rfl) rfl ?_;exact jE
 |refine bodyPost_ret (by simp only [results,Tryz.results63];go_simp;rfl) rfl ?_;exact jE):p:=h
theorem jF(h:p:=by
 have hl6:=P6.lt;go_wp2_with (at_builtin;refine Df LC Tryz.underlying39 rfl dC dC (fun _=>rfl) Md rfl _ _ rfl w0 _ KK rfl (AC.alloc ho6 _) _ x.key rfl (BC _ _ _ rfl) oM (Nat.le_trans hB6.size (Aj _ _)) ?_)
 have A8Y:=trivial;exact jG):p:=h
theorem jH(h:p:=by
 have hl6:=P5.lt;go_wp2_with (at_builtin;refine Df LC Tryz.underlying39 rfl dC dC (fun _=>rfl) Md rfl _ _ rfl w0 _ KK rfl (AC.alloc ho5 _) _ x.key rfl (BC _ _ _ rfl) oM (Nat.le_trans hB5.size (Aj _ _)) ?_)
 exact jG):p:=h
theorem jI(h:p:=by
 have e:((0:Nat):Int) - 1 = -1:=rfl;rw [e];exact gT):p:=h
theorem Yv(h:p:=by
 intro j u hj;have hlt:j<ys.length*sz:=A48;have hq:j / sz<ys.length:=Nat.div_lt_of_lt_mul (by rw [Nat.mul_comm];exact hlt);have hy1:ys[j / sz]? = some (ys[j / sz]'hq):=List.getElem?_eq_getElem hq;have hel:(enc (ys[j / sz]'hq))[j % sz]? = some ((enc (ys[j / sz]'hq))[j % sz]'(by rw [henc];exact Nat.mod_lt _ hpos)):=List.getElem?_eq_getElem _;have g1:=Km henc ys (j / sz) _ (j % sz) _ hy1 hel;rw [Nat.div_add_mod' j sz,hj] at g1;obtain ⟨b,off,e,_,hc⟩:=hf.2.2.2 _ _ hy1;obtain rfl:ad=⟨b,off,none⟩:=Option.some.inj e;have g2:=hc _ _ hel;rw [Nat.add_assoc,Nat.div_add_mod' j sz,← g1] at g2;unfold Addr.add;split
 ·rename_i h0;subst h0;exact g2
 exact g2):p:=h
theorem jJ(h:p:=by
 have csA:=AC.alloc csn (.cells #[I0] 3);replace On:=(On.keep bA).grown csA gX dC dC dC;replace psn:=ON.grownE (psn.keep bA) csA gX dC dC;replace QS:=(QS.keep bA).keepL bX (Nat.lt_succ_self ob);have A8Z:=trivial;exact S7):p:=h
theorem iO(h:p:=by
 have A8a:=trivial;exact S8):p:=h
theorem jK(h:p:=by
 rw [hnone] at hse;subst hse;have x0:wr.cell? ⟨uh,0,none⟩=.some I0:=hQ.cell 0 _ rfl;have HX:=H.keep hB;go_wp2_with fail
 refine (I4 F _ g B b [] 0 15 true wr HX dC).mono ?_;rintro e w2 ⟨rfl,H2,W2⟩;have hfc:AG true 15 0=15:=rfl;rw [hfc] at H2;have WX:=(Wf.of_below (g:=g) (F:=F) hB).trans W2;clear hQ HX W2 ho hun hKF x0;have A8b:=trivial;exact Ie):p:=h
theorem jL(h:p:=by
 clear q0 z0;have Q2:=Q1.set1 4 am AF;have P2:=P1.otherC bs 4 am oM;have V2:=V1.putB (o:=4) (v := .int .i64 am) (Nat.le_refl bs);have B2:Below w w (w1.setCell ⟨bs,4,none⟩ am):=Below.setCell B1 GJ _;have l2:bs<(w1.setCell ⟨bs,4,none⟩ am).heap.size:=JR;generalize w1.setCell ⟨bs,4,none⟩ am=w2 at Q2 P2 V2 B2 l2 ⊢;have A8c:=trivial;exact JX):p:=h
theorem jM(h:p:=by
 have A8d:=trivial;exact GN):p:=h
theorem jN(h:p:=by
 refine tN 36 ?_;refine tN 37 ?_;refine tN 38 ?_;refine tN 39 ?_;refine tN 40 ?_;refine tN 41 ?_;refine tN 42 ?_;refine tN 43 ?_;refine tN 44 ?_;refine tN 45 ?_;have A8e:=trivial;exact jO):p:=h
theorem Su(h:p:=by
 (try clear hZ);exact jP):p:=h
theorem Sv(h:p:=by
 (try clear hZ);exact jQ):p:=h
theorem jR(h:p:=by
 have A8f:=trivial;exact OU):p:=h
theorem gf(h:p:=by
 obtain ⟨p0,p1,p2,p3,p4,p5⟩:=P2.c6;obtain ⟨y0,y1,y2,y3,y4,y5⟩:=P2.z6;obtain ⟨q0,q1⟩:=P3.c2;obtain ⟨z0,z1⟩:=P3.z2;obtain ⟨r0,r1,r2,r3,r4,r5⟩:=P5.c6;obtain ⟨s0,s1⟩:=P8.c2;refine wp_region_noPanic ?_;refine wp_region_held_drew (S:=fun w'=>w'.cell? ⟨u5,0,none⟩=.some bk.tick∧w'.cell? ⟨u5,1,none⟩=.some bk.next∧w'.cell? ⟨u5,2,none⟩=.some bk.wallet∧w'.cell? ⟨u5,3,none⟩=some (.slice a1 n1 k1)∧w'.cell? ⟨u5,4,none⟩=some (.slice a2 n2 k2)∧w'.cell? ⟨u5,5,none⟩=some (.slice a3 n3 k3)∧w'.cell? ⟨u8,0,none⟩=.some lg.last∧w'.cell? ⟨u8,1,none⟩=some (.slice al nl kl)) kR ?_ (fun hHeld => ?_)
 ·exact Bc
 refine tK 0 ?_;refine tK 1 ?_;refine tK 2 ?_;refine tH 3 fun K hK => ?_;go_simp
 first
 |clear A8g
  refine sO hK fun hHeld => ?_;clear hK K;refine tH 4 fun K hK => ?_;have A8h:=trivial;exact FV
 |go_at_call 226
  refine (CZ _ VD).mono ?_;have A8i:=trivial;exact GN):p:=h
theorem jS(h:p:=by
 have A8j:=trivial;exact OU):p:=h
theorem iB(h:p:=by
 obtain ⟨k,S,x,y,z,F2,us,hk,rfl,hS,Q,O,hF,hps,hcs,hB⟩:=hrel;obtain ⟨bk,ps,cs⟩:=S;dsimp only at Q O hps hcs;obtain ⟨⟨a4,n4,k4,rfl⟩,⟨a5,n5,k5,rfl⟩,⟨a6,n6,k6,rfl⟩⟩:=O.form;obtain ⟨ap,cp,rfl,-,-⟩:=hps.form;obtain ⟨ac,cc,rfl,-⟩:=AC.of (ok:=fun _=>True) hcs (fun _ _=>trivial);have hBw:=B4.trans (hB.mono hob1);have R4:=P46.keepL hB g4l;have hbok:Bok bk:=by have:=A0c hb es k;rw [hS.out] at this;exact this
 have hlen:cs.length≤k∧ps.length≤k:=by have:=Xi b es k;rw [hS.out] at this;exact this
 have hl2:nv≤1048576:=by rw [← HN.out];exact hl
 clear Q0 O4 S4 C4 hF0;obtain ⟨q0,q1,q2,q3,q4,q5⟩:=Q.c6;by_cases hlt:k<nv;rotate_left
 first
 |clear A7j
  ·have A8X:=trivial;exact jD
  have A78:=trivial;exact io
 |·exact jD
  exact io):p:=h
theorem jT(h:p:=by
 have e5:((b.tick+1) % 5 == 0)=true:=by rw [h5];rfl
 simp only [h5,if_true] at hm2 hi2 HL ⊢;obtain ⟨g',off',a',e',hg',-,⟨-,-,-,-,-,-,c6⟩,hx,-⟩:=Bz.at_ V3.chans hlt2;have A8k:=trivial;exact S9):p:=h
theorem jU(h:p:=by
 by_cases hp:h.wait.length=0;rotate_left
 ·have ehp:((np:Int) == 0)=false:=An;have hno:Hid (¬ h=Hb.zero):=fun e=>hp EJ;clear hp;exact D3
 have ehp:np=0:=AA;subst ehp;have Hhp:=lH hp;clear hp;by_cases hq:h.sent.length=0;rotate_left
 ·have ehq:((nq:Int) == 0)=false:=An;have hno:Hid (¬ h=Hb.zero):=fun e=>hq EJ;clear hq;exact D3
 have ehq:nq=0:=AA;subst ehq;have Hhq:=lH hq;clear hq;go_wp2;go_ret
 first
 |clear A8l
  exact ⟨⟨true,rfl,fun _=>(by
   obtain ⟨⟨⟨cells,dirty⟩,nx0,ep0⟩,bk,lg,wt,st⟩:=h;have z1:=(Kx _).1 HD.out;have z2:=Hhn.out;have z3:=Hhe.out;have z4:=HB.out;have z5:=HL.out;have z6:=List.length_eq_zero_iff.1 (Hhp.out);have z7:=List.length_eq_zero_iff.1 (Hhq.out);simp only at z1 z2 z3 z4 z5 z6 z7;rw [z2,z3,z4,z5,z6,z7];have e1:=congrArg Dk.cells z1;have e2:=congrArg Dk.dirty z1;simp only [Dk.zero] at e1 e2;rw [e1,e2]
   rfl),fun _=>rfl⟩,BX⟩
 |exact ⟨⟨true,rfl,fun _=>(by
   obtain ⟨⟨⟨cells,dirty⟩,nx0,ep0⟩,⟨t1,t2,t3,l1,l2,l3⟩,⟨t4,l4⟩,wt,st⟩:=h;have z1:=(Kx _).1 HD.out;have z2:=Hhn.out;have z3:=Hhe.out;have z4:=Hha.out;have z5:=Hhb.out;have z6:=Hhc.out;have z7:=List.length_eq_zero_iff.1 Hhx.out;have z8:=List.length_eq_zero_iff.1 Hhy.out;have z9:=List.length_eq_zero_iff.1 Hhz.out;have z10:=Hhl.out;have z11:=List.length_eq_zero_iff.1 Hhm.out;have z12:=List.length_eq_zero_iff.1 Hhp.out;have z13:=List.length_eq_zero_iff.1 Hhq.out;simp only at z1 z2 z3 z4 z5 z6 z7 z8 z9 z10 z11 z12 z13;rw [z2,z3,z4,z5,z6,z7,z8,z9,z10,z11,z12,z13];have e1:=congrArg Dk.cells z1;have e2:=congrArg Dk.dirty z1;simp only [Dk.zero] at e1 e2;rw [e1,e2]
   rfl),fun _=>rfl⟩,BX⟩):p:=h
theorem jV(h:p:=by
 go_upto_region 1 with fail
 refine cJ fun w0 P0 b0 hz => ?_;have R0:=bN w0 [I0,I0,I0, .slice none 0 0, .slice none 0 0, .slice none 0 0] 54;have b1:=bA w0 [I0,I0,I0, .slice none 0 0, .slice none 0 0, .slice none 0 0] 54;have hz1:w.heap.size+2≤(w0.alloc (.cells #[I0,I0,I0, .slice none 0 0, .slice none 0 0, .slice none 0 0] 54)).heap.size:=Ek;generalize w0.alloc (.cells #[I0,I0,I0, .slice none 0 0, .slice none 0 0, .slice none 0 0] 54)=w1 at R0 b1 hz1 ⊢;have P:=P0.keep b1;have B1:=AD b1 b0;have R:=R0;rw [hz] at R;have VX:=V;clear P0 b0 b1 hz R0 V;have p3:=P.cell 3 _ rfl;have hpl:=P.lt
 first
 |clear A8m
  go_wp2_with (at_builtin;refine Da D4 Tryz.underlying50 rfl dC dC (fun _=>rfl) ER rfl _ _ rfl w1 (.slice none 0 0) [] rfl (AC.nil _ _) _ b.chans rfl (VX.chans.keep B1) sM oM (Nat.le_refl _) ?_)
  intro v y1 o c1 cg;have c0:Below w1 w1 y1:=c1;have A7M:=trivial;exact gP
 |go_wp2_with (at_builtin;refine Da D4 Tryz.underlying50 rfl dC dC (fun _=>rfl) ER rfl _ _ rfl w1 (.slice (some ⟨w1,0,none⟩) 0 0) [] rfl (AC.made w1 w1 (Nat.le_refl _)) _ b.chans rfl ((VX.chans.keep B1).keep (bW)) sM oM (Aj _ _) ?_)
  intro v y1 o c1 cg;have c0:Below w1 w1 y1:=(Below.trans (bW) c1);exact gP):p:=h
theorem jW(h:p:=by
 rintro e w2 ⟨rfl,b2⟩;have B2:=AD b2 B1;clear p0 p1 p2 p3 p4 p5;cases hT1:decide (0≤D9 b.chans q)
 ·have hno:Hid (Cp b.chans p q=false):=by
   rw [Pj] at hT1;unfold Hid Cp;rw [hT1];simp
  exact BH
 have HhT1:=lH hT1;have hy1:=HhT0.out;have hy2:=HhT1.out;rw [Pj] at hy1 hy2
 have hyes:Hid (Cp b.chans p q=true):=by
  unfold Hid Cp;rw [decide_eq_false hpq,hy1,hy2];rfl
 clear hy1 hy2;go_wp2;go_ret;exact ⟨Ag Rr,bW⟩):p:=h
theorem jX(h:p:=by
 have Q2:=Q1.set1 5 fe AF;have P2:=P1.otherC bs 5 fe oM;have V2:=V1.putB (o:=5) (v := .int .i64 fe) (Nat.le_refl bs);have B2:Below w w (w1.setCell ⟨bs,5,none⟩ fe):=Below.setCell B1 GJ _;have l2:bs<(w1.setCell ⟨bs,5,none⟩ fe).heap.size:=JR;generalize w1.setCell ⟨bs,5,none⟩ fe=w2 at Q2 P2 V2 B2 l2 ⊢;have A8n:=trivial;exact JX):p:=h
theorem bf(h:p:=by
 have hcl:b.chans.length≤20:=hb.n20;exact gu):p:=h
theorem jY(h:p:=by
 have A8o:=trivial;exact TA):p:=h
theorem jZ(h:p:=by
 go_upto_region 1 with fail
 refine cJ fun w0 P2 b2 hz => ?_;refine cV hz fun w1 P4 b4 => ?_;have P2:=P2.keep b4;have b4:=AD b4 b2;have n24:w.heap.size≠w.heap.size+1:=AA;clear hz b2;obtain ⟨g4,hg4⟩:∃ u,u=w.heap.size+1:=⟨_,rfl⟩;rw [← hg4] at P4 n24 ⊢;have z1:=b4.size;have g40:w.heap.size≤g4:=AA;clear hg4;obtain ⟨p0,p1,p2,p3,p4,p5⟩:=P2.c6;go_wp2_with fail
 first
 |clear A8p
  refine (NH _ _ _ b _ (V.keep b4)).mono ?_;have A8q:=trivial;exact ja
 |refine (Mx _ _ _ b _ (V.keep b4)).mono ?_;exact ja):p:=h
theorem bO(h:p:=by
 generalize hq:(if (b.tick+1) % 5=0 then b.chans.map Ef else b.chans)=qq;have HQQ:=lH hq;clear hq;obtain ⟨y,z,l,P,V,-⟩:=H.cells;obtain ⟨ay,m,cy,rfl,hm,-⟩:=VS.form V.htlcs;have HM:=lH hm;have HOK:=lH V.htlcs.oks;have HCK:=lH H.oks;obtain ⟨ax,n2,c2,rfl,hn2,hnc2,-⟩:=H.row;have HN2:=lH hn2;clear hn2;have hmB:=VS.lenB V.htlcs;clear hm;have p0:=P.cell 0 _ rfl
 first
 |clear A4g
  have f0:=P.fz 0 AF;have hgl:=P.lt;have HT:=H.tick (b.tick+1) uI;have PT:=P.set1 0 (.int .i64 (b.tick+1)) AF;go_enter Tryz.func177,Tryz.ntmps177
  go_upto_region 1 with fail
  generalize w.setCell ⟨g,0,none⟩ (.int .i64 (b.tick+1))=w1 at HT PT ⊢;obtain ⟨H1,W1⟩:=HT;clear p0 f0 hgl P V;have p4:w1.cell? ⟨g,4,none⟩=some (.slice ay m cy):=PT.cell 4 _ rfl;go_wp2;go_loopw [2,3,21] (fun _ _ i wr=>∃ k:Nat,k≤m∧i=k∧Wk F (.slice ax n2 c2) wr g B {b with tick:=b.tick+1,htlcs:=Cf Bw b.htlcs k} ls kd∧Wf g F F w wr) (fun _ _ i _=>m - (intOf i).toNat)
  case atStart=>exact ⟨0,Nat.zero_le _,rfl,by rw [MS];exact H1,W1⟩
  case round =>
   obtain ⟨k,hk,rfl,HK,WK⟩:=hrel;by_cases hlt:k<m
   ·have A8r:=trivial;exact jb
   have A8s:=trivial;exact jc
 |have e0:(b.tick == 1125899906842624)=false:=by
   rw [beq_eq_false_iff_ne];omega
  have CC:=I4 F (.slice ax n2 c2) g B b ls 0 2 false w H dC;rw [MN] at CC;go_enter Tryz.func156,Tryz.ntmps156
  go_wp2_with fail
  refine CC.mono ?_;rintro e w1 ⟨rfl,H0,W0⟩;obtain ⟨y',z',l',PP,V',-⟩:=H0.cells;clear p0 CC e0 P V;have p0:=PP.cell 0 _ rfl;have f0:=PP.fz 0 AF;obtain ⟨ay',m',cy',rfl,hm',-⟩:=VS.form V'.htlcs;have HM':=lH hm';have hmB':=VS.lenB V'.htlcs;clear hm' V';have hgl:=PP.lt;have HT:=H0.tick (b.tick+1) uI;have PT:=PP.set1 0 (.int .i64 (b.tick+1)) AF;go_upto_region 2 with fail
  generalize w1.setCell ⟨g,0,none⟩ (.int .i64 (b.tick+1))=w2 at HT PT ⊢;obtain ⟨H1,W1'⟩:=HT;have W1:=W0.trans W1';clear p0 f0 hgl PP W0 W1';obtain rfl:m'=m:=by have h1:=HM.out;have h2:=HM'.out;omega
  have p4:w2.cell? ⟨g,4,none⟩=some (.slice ay' m' cy'):=PT.cell 4 _ rfl;go_wp2;go_loopw [2,27] (fun _ i wr=>∃ k:Nat,k≤m'∧i=k∧Wk F (.slice ax n2 c2) wr g B {b with tick:=b.tick+1,htlcs:=Cf Bw b.htlcs k} ls 0∧Wf g F F w wr) (fun _ i _=>m' - (intOf i).toNat)
  case atStart=>exact ⟨0,Nat.zero_le _,rfl,by rw [MS];exact H1,W1⟩
  case round =>
   obtain ⟨k,hk,rfl,HK,WK⟩:=hrel;by_cases hlt:k<m'
   ·exact jb
   exact jc):p:=h
theorem A8t(h:p:=by
 have A8u:=trivial;exact In):p:=h
theorem je(h:p:=by
 have A8v:=trivial;exact KS):p:=h
theorem A8w(h:p:=by
 obtain ⟨k,hk,rfl,hall⟩:=hrel;by_cases hlt:k<n;rotate_left
 ·have hres:Hid (EU xs j=false):=(JA (p:=fun y:Int=>decide (y=j)) (by have:=hall.out;rwa [I.all oM] at this)).2.2;exact Re
 obtain ⟨g,off,x,rfl,hg,c0,hxb,hx,ht⟩:=I.at_ hlt;by_cases hxy:x=j
 ·have e0:(x == j)=true:=Dl;have hres:Hid (EU xs j=true):=QU (p:=fun y:Int=>decide (y=j)) hx.out Dl;exact bK
 have e0:(x == j)=false:=Dl;have hgo:=lH (IQ (p:=fun y:Int=>decide (y=j)) ht.out hall.out Dl);exact bJ):p:=h
theorem Rn(h:p:=by
 obtain ⟨a1,n1,k1,rfl,-,-,-,-,-⟩:=V.hub.log.disk.cells.at_;obtain ⟨a2,n2,k2,rfl,-,-,-,-,-⟩:=V.hub.log.disk.dirty.at_;obtain ⟨a3,n3,k3,rfl,-,-⟩:=VS.form V.hub.book.chans;obtain ⟨a4,n4,k4,rfl,-,-⟩:=VS.form V.hub.book.htlcs;obtain ⟨a5,n5,k5,rfl,-,-⟩:=VS.form V.hub.book.circles;obtain ⟨a6,n6,k6,rfl,-,-⟩:=VS.form V.hub.ledger.lines;obtain ⟨a7,n7,k7,rfl,-,-⟩:=VS.form V.hub.wait;obtain ⟨a8,n8,k8,rfl,-,-⟩:=VS.form V.hub.sent;obtain ⟨a9,n9,k9,rfl,-,-,-,-,-⟩:=V.disk.cells.at_;obtain ⟨aa,na,ka,rfl,-,-,hna,-,-⟩:=V.disk.dirty.at_;obtain ⟨ab,nb,kb,rfl,-,-⟩:=VS.form V.took;obtain ⟨ac,nc,kc,rfl,hnc,-⟩:=VS.form V.sent;obtain ⟨ad,nd,kd,rfl,-,-⟩:=VS.form V.codes
 first
 |clear A77
  have HNA:=lH hna;clear hna hnc;dsimp only at V HNA ⊢
  first
  |clear A4v
   go_enter Tryz.func12,Tryz.ntmps12
   cases up with
   | true =>
    have A8x:=trivial;exact jf
   | false =>
    have A8y:=trivial;exact TB
  |go_enter Tryz.func10,Tryz.ntmps10
   cases up with
   | true =>
    exact jf
   | false =>
    exact TB
 |clear hna hnc
  first
  |clear A47
   (go_enter Tryz.func15,Tryz.ntmps15);(go_upto_region 1 with fail);refine cW fun w1 PX BX => ?_;have VX:=V.keep BX;(go_wp2_with ((show Go.wpList _ _ _ ((Go.Oper.mk _ (Go.Op.load 62 _) _ _ _ _) :: _) _ _);refine Ce Hh Fh rfl _ rfl _ _ rfl [W.up, .slice a1 n1 k1, .slice a2 n2 k2,W.hub.log.next,W.hub.log.epoch,W.hub.book.tick,W.hub.book.next,W.hub.book.wallet, .slice a3 n3 k3, .slice a4 n4 k4, .slice a5 n5 k5,W.hub.ledger.last, .slice a6 n6 k6, .slice a7 n7 k7, .slice a8 n8 k8, .slice a9 n9 k9, .slice aa na ka, .slice ab nb kb, .slice ac nc kc, .slice ad nd kd] (PX.range 0 [W.up, .slice a1 n1 k1, .slice a2 n2 k2,W.hub.log.next,W.hub.log.epoch,W.hub.book.tick,W.hub.book.next,W.hub.book.wallet, .slice a3 n3 k3, .slice a4 n4 k4, .slice a5 n5 k5,W.hub.ledger.last, .slice a6 n6 k6, .slice a7 n7 k7, .slice a8 n8 k8, .slice a9 n9 k9, .slice aa na ka, .slice ab nb kb, .slice ac nc kc, .slice ad nd kd] rfl) rfl ?_));refine (Um _ _ _ _ _ _ _ _ _ _ _ _ _ W w1 VX hB).mono ?_;rintro e w2 ⟨rfl,bx⟩;have PX:=PX.keep bx;have VX:=VX.keep bx;have BX:=AD bx BX;clear bx;cases hw:DY W
   ·exact jg
   have u0:=PX.cell 0 _ rfl;cases hup:W.up
   ·exact jh
   rw [hup] at u0;have hyes:Hid (G8 W=Bj W.hub.ledger 3 0+Bj W.hub.ledger 4 0):=SU;clear hw hup;have CM:=fun (kd ch:Int) (w':World) (V':LgV w' w' (.slice a6 n6 k6) W.hub.ledger)=>zF _ W.hub.ledger kd ch w' V';have hb3:=NB W.hub.ledger 3 0;have hb4:=NB W.hub.ledger 4 0;have hwr:IntKind.i64.wrap (Bj W.hub.ledger 3 0+Bj W.hub.ledger 4 0)=Bj W.hub.ledger 3 0+Bj W.hub.ledger 4 0:=Ao;clear hb3 hb4;(go_upto_region 3 with fail);clear u0;have BD:Below w2 w2 w2.drew:=Below.drew (Below.refl _ _);have D_0:=PX.keep BD;have d_0_11:=D_0.cell 11 _ rfl;have d_0_12:=D_0.cell 12 _ rfl;refine wp_region_noPanic ?_;refine wp_region_held_drew (S:=fun w'=>w'.cell? ⟨w,11,none⟩=.some W.hub.ledger.last∧w'.cell? ⟨w,12,none⟩=some (.slice a6 n6 k6)) kR ?_ (fun hHeld => ?_)
   ·exact Bc
   refine tK 0 ?_;refine tK 1 ?_;refine tK 2 ?_;refine tK 3 ?_;refine tK 5 ?_;refine tK 6 ?_;refine tK 7 ?_;refine tK 8 ?_;refine tH 4 fun K hK => ?_;go_simp;(go_at_call 62);refine (CM 3 0 _ (VX.hub.ledger.keep BD)).mono ?_;rintro e wc1 ⟨rfl,bc1⟩;have Bc1:Below w2 w2 wc1:=Below.trans BD (Below.mono bc1 BD.size);have Ec1_0:=PX.keep Bc1;have c1_0_11:=Ec1_0.cell 11 _ rfl;have c1_0_12:=Ec1_0.cell 12 _ rfl;(go_wp2_with fail);refine sO hK fun hHeld => ?_;clear hK K;refine tH 9 fun K hK => ?_;go_simp;(go_at_call 62);refine (CM 4 0 _ (VX.hub.ledger.keep Bc1)).mono ?_;rintro e wc2 ⟨rfl,bc2⟩;have Bc2:Below w2 w2 wc2:=Below.trans Bc1 (Below.mono bc2 Bc1.size);have Ec2_0:=PX.keep Bc2;have c2_0_11:=Ec2_0.cell 11 _ rfl;have c2_0_12:=Ec2_0.cell 12 _ rfl;(go_wp2_with fail);refine sO hK fun hHeld => ?_;clear hK K;refine tK 10 ?_;refine tK 11 ?_;refine wpAnyH_done kR ?_ _;refine NoPanic.normal ?_;go_wp2;go_ret;exact ⟨by first | (rw [hyes.out];done) | (rw [hyes.out];rfl),SM⟩
  |(go_enter Tryz.func14,Tryz.ntmps14);(go_upto_region 1 with fail);refine cW fun w1 PX BX => ?_;have VX:=V.keep BX;(go_wp2_with ((show Go.wpList _ _ _ ((Go.Oper.mk _ (Go.Op.load 62 _) _ _ _ _) :: _) _ _);refine Ce Hh Fh rfl _ rfl _ _ rfl [W.up, .slice a1 n1 k1, .slice a2 n2 k2,W.hub.log.next,W.hub.log.epoch,W.hub.book.tick,W.hub.book.next,W.hub.book.wallet, .slice a3 n3 k3, .slice a4 n4 k4, .slice a5 n5 k5,W.hub.ledger.last, .slice a6 n6 k6, .slice a7 n7 k7, .slice a8 n8 k8, .slice a9 n9 k9, .slice aa na ka, .slice ab nb kb, .slice ac nc kc, .slice ad nd kd] (PX.range 0 [W.up, .slice a1 n1 k1, .slice a2 n2 k2,W.hub.log.next,W.hub.log.epoch,W.hub.book.tick,W.hub.book.next,W.hub.book.wallet, .slice a3 n3 k3, .slice a4 n4 k4, .slice a5 n5 k5,W.hub.ledger.last, .slice a6 n6 k6, .slice a7 n7 k7, .slice a8 n8 k8, .slice a9 n9 k9, .slice aa na ka, .slice ab nb kb, .slice ac nc kc, .slice ad nd kd] rfl) rfl ?_));refine (Xe _ _ _ _ _ _ _ _ _ _ _ _ _ W w1 VX hB).mono ?_;rintro e w2 ⟨rfl,bx⟩;have PX:=PX.keep bx;have VX:=VX.keep bx;have BX:=AD bx BX;clear bx;cases hw:DY W
   ·exact jg
   have u0:=PX.cell 0 _ rfl;cases hup:W.up
   ·exact jh
   rw [hup] at u0;have hyes:Hid (G8 W=Bj W.hub.ledger 3 0+Bj W.hub.ledger 4 0):=SU;clear hw hup;have CM:=fun (kd ch:Int) (w':World) (V':LgV w' w' (.slice a6 n6 k6) W.hub.ledger)=>A2H _ W.hub.ledger kd ch w' V';have hb3:=NB W.hub.ledger 3 0;have hb4:=NB W.hub.ledger 4 0;have hwr:IntKind.i64.wrap (Bj W.hub.ledger 3 0+Bj W.hub.ledger 4 0)=Bj W.hub.ledger 3 0+Bj W.hub.ledger 4 0:=Ao;clear hb3 hb4;(go_upto_region 3 with fail);clear u0;have BD:Below w2 w2 w2.drew:=Below.drew (Below.refl _ _);have D_0:=PX.keep BD;have d_0_11:=D_0.cell 11 _ rfl;have d_0_12:=D_0.cell 12 _ rfl;refine wp_region_noPanic ?_;refine wp_region_held_drew (S:=fun w'=>w'.cell? ⟨w,11,none⟩=.some W.hub.ledger.last∧w'.cell? ⟨w,12,none⟩=some (.slice a6 n6 k6)) kR ?_ (fun hHeld => ?_)
   ·exact Bc
   refine tK 0 ?_;refine tK 1 ?_;refine tK 2 ?_;refine tK 3 ?_;refine tK 5 ?_;refine tK 6 ?_;refine tK 7 ?_;refine tK 8 ?_;refine tH 4 fun K hK => ?_;go_simp;(go_at_call 61);refine (CM 3 0 _ (VX.hub.ledger.keep BD)).mono ?_;rintro e wc1 ⟨rfl,bc1⟩;have Bc1:Below w2 w2 wc1:=Below.trans BD (Below.mono bc1 BD.size);have Ec1_0:=PX.keep Bc1;have c1_0_11:=Ec1_0.cell 11 _ rfl;have c1_0_12:=Ec1_0.cell 12 _ rfl;(go_wp2_with fail);refine sO hK fun hHeld => ?_;clear hK K;refine tH 9 fun K hK => ?_;go_simp;(go_at_call 61);refine (CM 4 0 _ (VX.hub.ledger.keep Bc1)).mono ?_;rintro e wc2 ⟨rfl,bc2⟩;have Bc2:Below w2 w2 wc2:=Below.trans Bc1 (Below.mono bc2 Bc1.size);have Ec2_0:=PX.keep Bc2;have c2_0_11:=Ec2_0.cell 11 _ rfl;have c2_0_12:=Ec2_0.cell 12 _ rfl;(go_wp2_with fail);refine sO hK fun hHeld => ?_;clear hK K;refine tK 10 ?_;refine tK 11 ?_;refine wpAnyH_done kR ?_ _;refine NoPanic.normal ?_;go_wp2;go_ret;exact ⟨by first | (rw [hyes.out];done) | (rw [hyes.out];rfl),SM⟩):p:=h
theorem ji(h:p:=by
 rintro e w5 ⟨⟨F5,u0,rfl,ho5⟩,hb⟩;have hl:=ho5.lt;replace ho5:=ho5.le hs;clear p
 replace hnd:=JK hnd ho5.nd (n:=X4.heap.size) (fun k hk=>by
  rcases List.mem_append.1 hk with hk | hk
  rotate_left
  ·exact (ho4.lt k hk).2
  rcases List.mem_append.1 hk with hk | hk
  rotate_left
  ·exact (ho3.lt k hk).2
  rcases List.mem_append.1 hk with hk | hk
  rotate_left
  ·exact (ho2.lt k hk).2
  exact (ho1.lt k hk).2) (fun k hk=>(hl k hk).1)
 replace ho1:=ho1.keep hb;replace ho2:=ho2.keep hb;replace ho3:=ho3.keep hb;replace ho4:=ho4.keep hb;have A8z:=trivial;exact KT):p:=h
theorem jj(h:p:=by
 have hc1:AI b.chans ch=true:=by simp at r6;exact r6.1
 have hc2:AI b.chans tt=true:=by simp at r6;exact r6.2
 obtain ⟨n1,cc1,ia,hxe,rfl,ai⟩:=Y1 hc1;obtain ⟨n2,cc2,jd,hxe2,rfl,di⟩:=Y2 hc2;have A80:=trivial;exact JY):p:=h
theorem jk(h:p:=by
 rintro e w3 ⟨rfl,b3⟩;clear a0 a1 a2 a3 a4 a5;have LX:=LX.keep b3;have AX:=AX.keep b3;have VX:=VX.keep b3;have UX:=UX.keep b3;have B3:=AD b3 B2;cases hb2:Ak (⟨t2,u2,v2,cs2,hs2,zs2⟩:Bk)
 ·have hno:Hid (¬ P):=by
   unfold Hid;rw [← HP.out];intro e;have e2:=e.2.1;rw [hb2] at e2;simp at e2
  clear hb2;exact Dx
 have HB2:=lH hb2;clear hb2;obtain ⟨l0,l1,l2,l3,l4,l5⟩:=LX.c6;obtain ⟨a0,a1,a2,a3,a4,a5⟩:=AX.c6
 first
 |clear A81
  go_wp2_with fail
  refine (XT _ _ _ _ _ _ (⟨t1,u1,v1,cs1,hs1,zs1⟩:Bk) (⟨t2,u2,v2,cs2,hs2,zs2⟩:Bk) w3 VX UX).mono ?_;rintro e w4 ⟨⟨r,rfl,hr⟩,b4⟩;have B4:=AD b4 B3
  cases r with
  | false =>
   have hno:Hid (¬ P):=by
    unfold Hid;rw [← HP.out];intro e;(have:=hr.2 e.2.2);simp at this
   clear hr;exact Dx
  | true =>
   have hyes:Hid P:=by
    unfold Hid;rw [← HP.out];exact ⟨HB1.out,HB2.out,hr.1 rfl⟩
   clear hr;go_wp2;go_ret;first | exact ⟨⟨_,rfl,by simp [hyes.out]⟩,B4⟩ | exact ⟨Or.inr ⟨rfl,hyes.out⟩,B4⟩
 |by_cases hd:t1=t2;rotate_left
  ·have et:(t1 != t2)=true:=by simp [hd]
   have hno:Hid (¬ P):=by
    have A82:=trivial;exact Gv
   exact Dx
  subst hd;have et:(t1 != t1)=false:=AP;by_cases hd:u1=u2;rotate_left
  ·have eu:(u1 != u2)=true:=by simp [hd]
   have hno:Hid (¬ P):=by
    have A83:=trivial;exact Gv
   exact Dx
  subst hd;have eu:(u1 != u1)=false:=AP;by_cases hd:v1=v2;rotate_left
  ·have ev:(v1 != v2)=true:=by simp [hd]
   have hno:Hid (¬ P):=by
    have A84:=trivial;exact Gv
   exact Dx
  subst hd;have ev:(v1 != v1)=false:=AP;by_cases hd:n1=n2;rotate_left
  ·have en:((n1:Int) != (n2:Int))=true:=An
   have hno:Hid (¬ P):=by
    have A85:=trivial;exact Gv
   exact Dx
  subst hd;have en:((n1:Int) != (n1:Int))=false:=AP;by_cases hd:m1=m2;rotate_left
  ·have em:((m1:Int) != (m2:Int))=true:=An
   have hno:Hid (¬ P):=by
    have A86:=trivial;exact Gv
   exact Dx
  subst hd;have em:((m1:Int) != (m1:Int))=false:=AP;by_cases hd:q1=q2;rotate_left
  ·have eq:((q1:Int) != (q2:Int))=true:=An
   have hno:Hid (¬ P):=by
    have A87:=trivial;exact Gv
   exact Dx
  subst hd;have eq:((q1:Int) != (q1:Int))=false:=AP;go_wp2;go_loopw [5,67] (fun _ i wr=>∃ k:Nat,k≤n1∧i=k∧Hid (cs1.take k=cs2.take k)∧Below w3 w3 wr) (fun _ i _=>n1 - (intOf i).toNat)
  case atStart=>exact ⟨0,Nat.zero_le _,rfl,rfl,Below.refl _ _⟩
  case round =>
   obtain ⟨k,hk,rfl,htk,hB0⟩:=hrel;have hBw:=AD hB0 B3;exact jl):p:=h
theorem jm(h:p:=by
 rintro e w2 ⟨rfl,b2⟩;clear l0 l1 l2 l3 l4 l5;have LX:=LX.keep b2;have AX:=AX.keep b2;have VX:=VX.keep b2;have UX:=UX.keep b2;have B2:=AD b2 B1;cases hb1:Ak (⟨t1,u1,v1,cs1,hs1,zs1⟩:Bk)
 ·have hno:Hid (¬ P):=by
   unfold Hid;rw [← HP.out];intro e;have e2:=e.1;rw [hb1] at e2;simp at e2
  clear hb1;exact Dx
 have HB1:=lH hb1;clear hb1;obtain ⟨a0,a1,a2,a3,a4,a5⟩:=AX.c6;go_wp2_with fail
 first
 |clear A88
  refine (NH _ _ _ (⟨t2,u2,v2,cs2,hs2,zs2⟩:Bk) w2 UX).mono ?_;have A81:=trivial;exact jk
 |refine (Mx _ _ _ (⟨t2,u2,v2,cs2,hs2,zs2⟩:Bk) w2 UX).mono ?_;exact jk):p:=h
theorem jn(h:p:=by
 have hwlt:=hb.wallet;unfold Am at hwlt;have c4:=PE.cell 4 _ rfl;obtain ⟨yp,zp,lp,PP,-,-⟩:=H5.cells;have p2:=PP.cell 2 _ rfl;have zr:=PP.fz 2 AF;have hwr2:IntKind.i64.wrap (b.wallet - am)=b.wallet - am:=Ao;have FIN:=H5.wallet (b.wallet - am) uI;have A89:=trivial;exact Ls):p:=h
theorem jo(h:p:=by
 rintro e w2 ⟨rfl,bx⟩;have A9A:=trivial;exact OQ):p:=h
theorem jp(h:p:=by
 have A9B:=trivial;exact OG):p:=h
theorem jq(h:p:=by
 have A9C:=trivial;exact OV):p:=h
theorem jr(h:p:=by
 have P3:=P1.keep b3;have Q3:=Q1.keep b3;have B3:=AD b3 B1;have A9D:=trivial;exact js):p:=h
theorem jt(h:p:=by
 go_upto_region 1 with fail
 refine cZ fun w0 PX BX hz => ?_;have A9E:=trivial;exact OW):p:=h
theorem ju(h:p:=by
 have hres:Hid (DP xs=none):=by
  by_cases h22:xs.length=22
  ·exact vA (by rw [(HE h22).out];exact hok)
  exact Pi h22
 have HE:=lH HE
 skip
 clear hok;go_wp2_with fail
 refine C3.mono ?_;rintro e w3 ⟨rfl,b3⟩;have P3:=P1.keep b3;have B3:=AD b3 B1;obtain ⟨r0,r1,r2,r3,r4,r5,r6⟩:=P3.c7;obtain ⟨z0,z1,z2,z3,z4,z5,z6⟩:=P3.z7;clear P1 Q1 V1 P3 p0 p1 p2 p3 p4 p5 p6 C3 b3;go_wp2
 first
 |clear A9F
  exact TC
 |exact jv):p:=h
theorem jw(h:p:=by
 have A9G:=trivial;exact GO):p:=h
theorem jx(h:p:=by
 have HNR:=lH hnr;have hnrB:=VS.lenB VR;clear hnr;go_upto_region 5 with fail
 refine cW fun w2 Q b2 => ?_;obtain ⟨uq,huq⟩:∃ u,u=w1.heap.size:=⟨_,rfl⟩;rw [← huq] at Q ⊢;have nQ:=H1.fresh;rw [← huq] at nQ;have P2:=P1.keep b2;have PE:=PE.keep b2;have H2x:=H1.keep b2;have W2:=W1.trans (Wf.of_below b2)
 first
 |clear A9H
  clear r0 r1 r2 r3 r4 r5 r6 p4 VR HR OR hgr P1 H1 b2 W1 huq;obtain ⟨ar2,nr2,cr2,p4,hnr2,hncr2,OR,VR,HR⟩:=H2x.ht
  have hpp:ar2=some ⟨gr,0,none⟩∧nr2=nr∧cr2=cr:=by
   (have:=P2.cell 4 _ rfl);rw [p4] at this;exact Fm
  have A9I:=trivial;exact jy
 |clear r0 r1 r2 r3 r4 p5 VR HR OR hgr P1 H1 b2 W1 huq;obtain ⟨ar2,nr2,cr2,p5,hnr2,hncr2,OR,VR,HR⟩:=H2x.ci
  have hpp:ar2=some ⟨gr,0,none⟩∧nr2=nr∧cr2=cr:=by
   (have:=P2.cell 5 _ rfl);rw [p5] at this;exact Fm
  exact jy):p:=h
theorem iu(h:p:=by
 have PB:=PB.keep b9;have PE:=PE.keep b9;have RB:=RB.keep b9;have RP:=RP.keep b9;have V4:=V4.keep b9;have BX:=Below.trans BX (Below.mono b9 BX.size);have hpl:=RP.lt;have nB:=nX ub oM;have nE:=nX ue oM;have nR:=nX ur oM;have nP:=nX up oM;have hB0:w.heap.size≤B0:=AA;have hwg:w.heap.size≤g:=AA
 first
 |clear A9J
  clear QW K hK nX b7 b8 b9 V4 hB8 hgg hB7 hbk;have e0:=PE.cell 0 _ rfl;go_upto_block 0 with fail
  clear e0;go_cut [] (fun wq=>Dn F g B0 b ⟨kd,ky,ch,tt,am,fe,ys⟩ w9 wq)
  case first =>
   have hkd:=Ma hg;rcases (show kd=1∨kd=2∨kd=3∨kd=4∨kd=5∨kd=6∨kd=7∨kd=8∨kd=9∨kd=10∨kd=11 by omega) with rfl | rfl | rfl | rfl | rfl | rfl | rfl | rfl | rfl | rfl | rfl
   ·have A9K:=trivial;exact jz
   ·have A9L:=trivial;exact j0
   ·have hk:=lH (of_decide_eq_true ((Kt ky ch tt am fe ys).symm.trans hg));have A9M:=trivial;exact Ft
   ·have A9N:=trivial;exact j1
   ·have A9O:=trivial;exact j2
   ·have A9P:=trivial;exact Lt
   ·have A9Q:=trivial;exact Lt
   ·have A9R:=trivial;exact Lt
   ·have A9S:=trivial;exact j3
   ·have A9T:=trivial;exact Lt
   exact Lt
  case rest =>
   obtain ⟨F7,x7,b7,ls7,H7,W7,hdone⟩:=hcut;have A9U:=trivial;exact Ij
 |clear QW K hK nX b8 b9 hB8 hgg hB7 hbk;have p1:=PB.cell 1 _ rfl;go_wp2_with fail
  first
  |clear A9V
   refine (I4 F _ g B0 b [] 0 2 true w9 H dC).mono ?_;rintro e w7 ⟨rfl,H7,W7⟩;obtain ⟨cd,hcd⟩:∃ c:Int,c=2:=⟨_,rfl⟩;rw [show AG true 2 0=cd from hcd.symm] at H7;(have HCD:Hid (cd=AQ b ⟨kd,ky,ch,tt,am,fe,ys⟩):=by unfold Hid;rw [hcd,ve (decide_eq_true HN.out)]);(have H0:Hid (cd≠0):=by unfold Hid;rw [hcd];decide);(have e7:(cd != 0)=true:=by rw [hcd];rfl);(have e8:(cd == 0)=false:=by rw [hcd];rfl);clear hcd p1;have A9W:=trivial;exact TD
  |refine (Kl F _ g B0 b [] 0 2 w9 H).mono ?_;rintro e w10 ⟨rfl,rfl⟩;clear p1 en;obtain ⟨yz,zz,lz,PZ,-,-⟩:=H.cells;have q0:=PZ.cell 7 _ rfl;(go_upto_if 36 with fail);clear q0 PZ;go_cut [] (fun wq=>Dn F g B0 b ⟨kd,ky,ch,tt,am,fe,ys⟩ w9 wq)
   first
   |clear A9X
    case first =>
     rcases hks with rfl | rfl | rfl
     ·have e0:=PE.cell 0 _ rfl;exact jz
     ·have e0:=PE.cell 0 _ rfl;exact j0
     have e0:=PE.cell 0 _ rfl;have hk:=lH (of_decide_eq_true ((Kt ky ch tt am fe ys).symm.trans hg));have hcode:=wK (b:=b) (e:=⟨3,ky,ch,tt,am,fe,ys⟩) hn rfl;dsimp only at hcode;have HC3:=lH hcode;have A9Y:=trivial;exact j4
    case rest =>
     exact SZ
   |clear A9Z
    case first =>
     (rcases HKS.out with rfl);have e0:=PE.cell 0 _ rfl;exact j1
    case rest =>
     exact SZ
   |case first =>
     rcases hks with rfl | rfl | rfl | rfl | rfl | rfl | rfl
     ·have e0:=PE.cell 0 _ rfl;exact j2
     ·have e0:=PE.cell 0 _ rfl;have hk:=lH (of_decide_eq_true ((Py ky ch tt am fe ys).symm.trans hg));have A9a:=trivial;exact Ft
     ·have e0:=PE.cell 0 _ rfl;have hk:=lH (of_decide_eq_true ((QI ky ch tt am fe ys).symm.trans hg));have A9b:=trivial;exact Ft
     ·have e0:=PE.cell 0 _ rfl;have A9c:=trivial;exact Ft
     ·have e0:=PE.cell 0 _ rfl;exact j3
     ·have e0:=PE.cell 0 _ rfl;have hk:=lH (of_decide_eq_true ((QD ky ch tt am fe ys).symm.trans hg));have A9d:=trivial;exact Ft
     have e0:=PE.cell 0 _ rfl;have hk:=lH (of_decide_eq_true ((Pf ky ch tt am fe ys).symm.trans hg));have A9e:=trivial;exact Ft
    case rest =>
     exact SZ):p:=h
theorem ja(h:p:=by
 rintro e w2 ⟨rfl,bb⟩;rw [(Gc b).2 hb];have P2:=P2.keep bb;have P4:=P4.keep bb;have b5:=AD bb b4;have z2:=b5.size;clear p0 p1 p2 p3 p4 p5 bb;obtain ⟨p0,p1,p2,p3,p4,p5⟩:=P2.c6;dsimp only;have hc:=hb.n20;have hh:=hb.pk.h60;have ho:=hb.pk.c20;go_wp2_with fail
 first
 |clear A8q
  refine (Vk _ _ _ b _ (V.keep b5) oM oM oM).mono ?_;have A7i:=trivial;exact iA
 |refine (XD _ _ _ b _ (V.keep b5) oM oM oM).mono ?_;exact iA):p:=h
theorem j5(h:p:=by
 refine wpAnyH_take (i:=0) (v := .pointer (some ⟨g,0,none⟩)) rfl kR kR kR (fun _ _ _ h=>h) (Or.inl ⟨BM,?_⟩) aS ?_
 ·exact Bi
 have A9f:=trivial;exact Bh):p:=h
theorem jb(h:p:=by
 have hi:b.htlcs[k]? = some (b.htlcs[k]' EL):=List.getElem?_eq_getElem _;obtain ⟨a,haa⟩:∃ a,a=b.htlcs[k]' EL:=⟨_,rfl⟩;rw [← haa] at hi;have hage:=ha a (List.mem_of_getElem? hi);have hi2:(Cf Bw b.htlcs k)[k]? = some a:=dm;obtain ⟨gy,n,c,c4,hn,hnc,hgy,hcell,hfz,hset⟩:=HK.htlc hi2;have hm2:=Vn Bw b.htlcs hi;rw [zL,HM.out] at hn;subst hn;have c6:=hcell 6 _ rfl;have z6:=hfz (k*7+6)
 have okk:(Bw a).ok:=by
  obtain ⟨o1,o2,o3,o4,o5,o6,o7⟩:=HOK.out a (List.mem_of_getElem? hi);exact ⟨o1,o2,o3,o4,o5,o6,by unfold AE Bw;dsimp only;omega⟩
 first
 |clear A8r
  have FIN:=hset 6 (Bw a) (.int .i64 (min (a.age+1) 1125899906842624)) dC rfl okk;simp only [hm2] at FIN;have FW:=WK.trans FIN.2;have FK:=FIN.1;clear FIN hset hfz hcell hm2 hi hi2 haa HK okk;exact j6
 |by_cases hM:a.age<1125899906842624
  ·have eM:decide (a.age<1125899906842624)=true:=decide_eq_true hM;have FIN:=hset 6 (Bw a) (.int .i64 (a.age+1)) dC (by rw [show a.age+1=min (a.age+1) 1125899906842624 by omega];rfl) okk;simp only [hm2] at FIN;have FW:=WK.trans FIN.2;have FK:=FIN.1;clear FIN hset hfz hcell hm2 hi hi2 haa HK okk hM;exact j6
  have eM:decide (a.age<1125899906842624)=false:=decide_eq_false hM;have hsame:Bw a=a:=by unfold Bw;rw [show min (a.age+1) 1125899906842624=a.age by omega]
  have hm3:Cf Bw b.htlcs k=Cf Bw b.htlcs (k+1):=by
   rw [← hm2,hsame];obtain ⟨h1,h2⟩:=List.getElem?_eq_some_iff.1 hi2;rw [← h2,List.set_getElem_self]
  rw [hm3] at HK;clear hset hfz hcell hm2 hm3 hi hi2 haa okk hM hsame;go_wp2;go_roundw
  case rel=>exact ⟨k+1,AA,Ab,HK,WK⟩
  case measure=>simp only [intOf];omega):p:=h
theorem j7(h:p:=by
 have hgr:=PP.lt;have hBw:=H5.lt.2.1;have hgB:=H5.lt.1;have OKS:=VR.oks;have hsm:b.htlcs.length≤60:=hb.pk.h60;obtain ⟨L,hL⟩:∃ l,l=b.htlcs ++ [(⟨ky,ch,tt,am+fv,am,rv == 2,0⟩:Ht)]:=⟨_,rfl⟩
 have hoks:∀ y∈L,y.ok:=fun y hy=>by
  rw [hL] at hy;rcases List.mem_append.1 hy with hy | hy
  ·exact OKS y hy
  rw [List.mem_singleton.1 hy];exact ⟨Ct,Ct,Ct,Ct,Ct,trivial,Ct⟩
 have A9g:=trivial;exact j8):p:=h
theorem j9(h:p:=by
 rintro e w4 ⟨⟨F4,u0,rfl,ho4⟩,hb⟩;have hl:=ho4.lt;replace ho4:=ho4.le hs;clear p
 replace hnd:=JK hnd ho4.nd (n:=X3.heap.size) (fun k hk=>by
  rcases List.mem_append.1 hk with hk | hk
  rotate_left
  ·exact (ho3.lt k hk).2
  rcases List.mem_append.1 hk with hk | hk
  rotate_left
  ·exact (ho2.lt k hk).2
  exact (ho1.lt k hk).2) (fun k hk=>(hl k hk).1)
 replace ho1:=ho1.keep hb;replace ho2:=ho2.keep hb;replace ho3:=ho3.keep hb;have A9h:=trivial;exact KT):p:=h
theorem iw(h:p:=by
 have A9i:=trivial;exact Lr):p:=h
theorem kA(h:p:=by
 have hgr:=PP.lt;have hBw:=H5.lt.2.1;have hgB:=H5.lt.1;have OKS:=VR.oks;have hsm:b.circles.length≤20:=hb.pk.c20;obtain ⟨L,hL⟩:∃ l,l=b.circles ++ [(⟨ky,ch,tt,am,fe⟩:Ci)]:=⟨_,rfl⟩
 have hoks:∀ y∈L,y.ok:=fun y hy=>by
  rw [hL] at hy;rcases List.mem_append.1 hy with hy | hy
  ·exact OKS y hy
  rw [List.mem_singleton.1 hy];exact ⟨Ct,Ct,Ct,Ct,Ct⟩
 exact j8):p:=h
theorem kB(h:p:=by
 clear hb3;have A9j:=trivial;exact KR):p:=h
theorem kC(h:p:=by
 clear hb4;exact KR):p:=h
theorem kD(h:p:=by
 rintro e w3 ⟨⟨v3,us3,rfl,-⟩,bx⟩;have A9k:=trivial;exact OQ):p:=h
theorem gh(h:p:=by
 have A9l:=trivial;exact GO):p:=h
theorem kE(h:p:=by
 rintro e w8 ⟨⟨F,x',y',z',rfl,K⟩,b8⟩;rw [← hB7] at K;clear p0 p1 p2 p3 p4 p5;have PB:=PB.keep b8;have PE:=PE.keep b8;have RB:=RB.keep b8;have RP:=RP.keep b8;have V4:=V4.keep b8;have BX:=Below.trans BX (Below.mono b8 BX.size);have hpl:=RP.lt;obtain ⟨⟨a1,n1,c1,rfl⟩,⟨a2,n2,c2,rfl⟩,⟨a3,n3,c3,rfl⟩⟩:=K.form;have hB8:B0≤w8.heap.size:=A5u
 first
 |clear A9m
  go_upto_region 6 with fail
  have QW:=bN w8 [b.tick,b.next,b.wallet, .slice a1 n1 c1, .slice a2 n2 c2, .slice a3 n3 c3, .slice none 0 0,I0] 219;have b9:=bA w8 [b.tick,b.next,b.wallet, .slice a1 n1 c1, .slice a2 n2 c2, .slice a3 n3 c3, .slice none 0 0,I0] 219;have H:Wk F (.slice a1 n1 c1) (w8.alloc (.cells #[b.tick,b.next,b.wallet, .slice a1 n1 c1, .slice a2 n2 c2, .slice a3 n3 c3, .slice none 0 0,I0] 219)) w8 B0 b [] 0:=⟨F,[],_,_,_,sM,QW,K.keep b9,Es.zero _ _,eE,(fun hm=>eF),Nat.le_trans hB8 b9.size⟩;have A9n:=trivial;exact kF
 |have p1:=PB.cell 1 _ rfl;go_upto_region 4 with fail
  have QW:=bN w8 [b.tick,b.next,b.wallet, .slice a1 n1 c1, .slice a2 n2 c2, .slice a3 n3 c3, .slice none 0 0,I0] 196;have b9:=bA w8 [b.tick,b.next,b.wallet, .slice a1 n1 c1, .slice a2 n2 c2, .slice a3 n3 c3, .slice none 0 0,I0] 196;have H:Wk F (.slice a1 n1 c1) (w8.alloc (.cells #[b.tick,b.next,b.wallet, .slice a1 n1 c1, .slice a2 n2 c2, .slice a3 n3 c3, .slice none 0 0,I0] 196)) w8 B0 b [] 0:=⟨F,[],_,_,_,sM,QW,K.keep b9,Es.zero _ _,eE,(fun hm=>eF),Nat.le_trans hB8 b9.size⟩;exact kF):p:=h
theorem kG(h:p:=by
 have x1:=Q.cell 1 _ rfl;obtain ⟨hg,LI⟩:=LsIn.add LI (x:=⟨8,q1,-(q3+q4)⟩) sM Cq uL sM;go_wp2_with fail
 refine (DK _ _ g B _ _ 0 8 q1 (-(q3+q4)) _ H5 hg).mono ?_;have A9o:=trivial;exact Lu):p:=h
theorem kH(h:p:=by
 have c2k0:=(Hc2.at ai HAid.out hso).1 2 _ rfl;have c2k1:=(Hc2.at di HDid.out hso).1 3 _ rfl;have A9p:=trivial;exact Dm):p:=h
theorem bu(h:p:=by
 obtain ⟨a,n,c,rfl,hn,-⟩:=VS.form V.lines;obtain ⟨b,m,c2,rfl,hm,-⟩:=VS.form U.lines;have hnB:=VS.lenB V.lines;have HN:=lH hn;have HM:=lH hm;obtain ⟨pl,xs⟩:=p;obtain ⟨ql,ys⟩:=q;dsimp only at HN HM;have VX:=V.lines;have UX:=U.lines;dsimp only at VX UX ⊢;clear hn hm V U
 first
 |clear A4r
  go_enter Tryz.func128,Tryz.ntmps128
  exact gW
 |go_enter Tryz.func120,Tryz.ntmps120
  exact gW):p:=h
theorem Sr(h:p:=by
 refine tN 9 ?_;have A9q:=trivial;exact TE):p:=h
theorem kI(h:p:=by
 refine tN 11 ?_;refine tN 12 ?_;refine tN 13 ?_;refine tN 14 ?_;exact kJ):p:=h
theorem A9r(h:p:=by
 have A9s:=trivial;exact JZ):p:=h
theorem KR(h:p:=by
 have A9t:=trivial;exact Gu):p:=h
theorem kK(h:p:=by
 have hgb2:gb<wr.heap.size:=Lib.lt_of_cell b0;go_wp2_with (at_builtin;refine Df DS Tryz.underlying55 rfl dC dC (fun _=>rfl) Dh rfl _ _ rfl w _ EE rfl (AC.alloc ho _) _ ⟨yk,yc,ya⟩ rfl (BC _ _ _ rfl) oM (Nat.le_trans hB.size (Aj _ _)) ?_)
 intro v8 w8 o8 b8 g8;obtain ⟨E2,hE2⟩:∃ l,l=EE ++ [(⟨yk,yc,ya⟩:Ln)]:=⟨_,rfl⟩;have A9u:=trivial;exact TF):p:=h
theorem kL(h:p:=by
 have hga2:ga<wr.heap.size:=Lib.lt_of_cell a0;go_wp2_with (at_builtin;refine Df DS Tryz.underlying55 rfl dC dC (fun _=>rfl) Dh rfl _ _ rfl w _ EE rfl (AC.alloc ho _) _ ⟨xk,xc,xa⟩ rfl (BC _ _ _ rfl) oM (Nat.le_trans hB.size (Aj _ _)) ?_)
 exact RS):p:=h
theorem kM(h:p:=by
 refine LN rfl (fun K hK => ?_) Em.nil;go_simp;have ZA:Bx (w0.alloc (.cells #[I0,I0,I0,I0,I0,I0,I0] 182)).drew w0 [I0,I0,I0,I0,I0,I0,I0]:=Bx.keep (Bx.new w0 _ _ [I0,I0,I0,I0,I0,I0,I0] rfl zS _ rfl) (Below.drew (Below.refl _ _));have BA:Below w0 w0 (w0.alloc (.cells #[I0,I0,I0,I0,I0,I0,I0] 182)).drew:=Below.drew (Ae (Below.refl _ _) _);obtain ⟨wa,hwa⟩:∃ x,x=(w0.alloc (.cells #[I0,I0,I0,I0,I0,I0,I0] 182)).drew:=⟨_,rfl⟩;rw [← hwa] at ZA BA ⊢;clear hwa;have HA5:=H5.keep BA;have PA5:=P0.keep BA;have EA5:=PE.keep BA;obtain ⟨as0,as1,as2,as3,as4,as5⟩:=PA5.c6
 first
 |clear A9v
  have aue3:=EA5.cell 3 _ rfl;have ak0:=(by simpa using (HA5.at di HDid.out hso).1 0 _ rfl);have ak1:=(HA5.at di HDid.out hso).1 1 _ rfl;have ak2:=(HA5.at di HDid.out hso).1 2 _ rfl;have ak3:=(HA5.at di HDid.out hso).1 3 _ rfl;have ak4:=(HA5.at di HDid.out hso).1 4 _ rfl;have ak5:=(HA5.at di HDid.out hso).1 5 _ rfl;have ak6:=(HA5.at di HDid.out hso).1 6 _ rfl;have A9w:=trivial;exact jw
 |have aue2:=EA5.cell 2 _ rfl;have ak0:=(by simpa using (HA5.at ai HAid.out hso).1 0 _ rfl);have ak1:=(HA5.at ai HAid.out hso).1 1 _ rfl;have ak2:=(HA5.at ai HAid.out hso).1 2 _ rfl;have ak3:=(HA5.at ai HAid.out hso).1 3 _ rfl;have ak4:=(HA5.at ai HAid.out hso).1 4 _ rfl;have ak5:=(HA5.at ai HAid.out hso).1 5 _ rfl;have ak6:=(HA5.at ai HAid.out hso).1 6 _ rfl;exact jw):p:=h
theorem kN(h:p:=by
 have A9x:=trivial;exact kO):p:=h
theorem kP(h:p:=by
 have A9y:=trivial;exact kQ):p:=h
theorem aY(h:p:=by
 obtain ⟨n3,rfl⟩:∃ n2,nb=n2+1:=⟨b.length,by simpa using hnb.symm⟩;have znb:(((n3:Nat):Int)+1 == 0)=false:=Le;have pnb:decide ((0:Int)<((n3:Nat):Int)+1)=true:=decide_eq_true oM;obtain ⟨gb,ob,y',e,hgb,-,⟨b0,b1,b2⟩,hy,-⟩:=BE.at_ (VB.keep hB) (k:=0) oM;subst e;have hy':y'=y:=(Option.some.inj hy.out).symm;subst hy';obtain ⟨yk,yc,ya⟩:=y';simp only [Nat.zero_mul,Nat.add_zero] at b0 b1 b2;have VB2:=VS.tail VB;clear hy
 first
 |clear A38
  have hgo:Hid (AN la lb=(EE ++ [⟨yk,yc,ya⟩]) ++ AN [] b):=by unfold Hid;rw [hgo0.out,Ir,Ir];simp
  have hgk:Hid (Au la lb=Au [] b):=by unfold Hid;rw [hgk0.out,Mm,Mm]
  exact kS
 |cases hl1:EW xk xc yk yc with
  | true =>
   (have hgo:Hid (AN la lb=(EE ++ [⟨xk,xc,xa⟩]) ++ AN a (⟨yk,yc,ya⟩ :: b)):=by unfold Hid;rw [hgo0.out,LA _ _ (show AV ⟨xk,xc,xa⟩ ⟨yk,yc,ya⟩=true from hl1)];simp);(have hgk:Hid (Au la lb=Au a (⟨yk,yc,ya⟩ :: b)):=by unfold Hid;rw [hgk0.out,XN _ _ (show AV ⟨xk,xc,xa⟩ ⟨yk,yc,ya⟩=true from hl1)]);exact RT
  | false =>
   cases hl2:EW yk yc xk xc with
   | true =>
    (have hgo:Hid (AN la lb=(EE ++ [⟨yk,yc,ya⟩]) ++ AN (⟨xk,xc,xa⟩ :: a) b):=by unfold Hid;rw [hgo0.out,LD _ _ (show AV ⟨xk,xc,xa⟩ ⟨yk,yc,ya⟩=false from hl1) (show AV ⟨yk,yc,ya⟩ ⟨xk,xc,xa⟩=true from hl2)];simp);(have hgk:Hid (Au la lb=Au (⟨xk,xc,xa⟩ :: a) b):=by unfold Hid;rw [hgk0.out,VH _ _ (show AV ⟨xk,xc,xa⟩ ⟨yk,yc,ya⟩=false from hl1) (show AV ⟨yk,yc,ya⟩ ⟨xk,xc,xa⟩=true from hl2)]);have A9z:=trivial;exact kS
   | false =>
    (obtain ⟨rfl,rfl⟩:yk=xk∧yc=xc:=by have:=Kc (x:=⟨xk,xc,xa⟩) (y:=⟨yk,yc,ya⟩) (by simp [AV,hl1]) (by simp [AV,hl2]);exact ⟨this.1.symm,this.2.symm⟩);have LES:=fun w=>Jq yk yc yk yc w;simp only [hl1] at LES;have LEY:=fun w=>Jq yk yc yk yc w;simp only [hl2] at LEY;have A90:=trivial;exact RT):p:=h
theorem Sm(h:p:=by
 have x0g:=fun g:Grew w7=>g.cell x0;have x1g:=fun g:Grew w7=>g.cell x1;have x2g:=fun g:Grew w7=>g.cell x2;have x3g:=fun g:Grew w7=>g.cell x3;have p0g:=fun g:Grew w7=>g.cell p0;have p1g:=fun g:Grew w7=>g.cell p1;have p2g:=fun g:Grew w7=>g.cell p2;have p3g:=fun g:Grew w7=>g.cell p3;have p4g:=fun g:Grew w7=>g.cell p4;have p5g:=fun g:Grew w7=>g.cell p5;refine ET kR kR ?_
 first
 |clear A91
  repeat (go_big_quiet_step ((go_at_call 233;exact Calls.grew_of_same (AZ _))))
  have A92:=trivial;exact kT
 |repeat (go_big_quiet_step (first | (go_at_call 233;exact Calls.grew_of_same (AZ _)) | (go_at_call 139;exact Calls.grew_of (CO _)) | (go_at_call 236;exact Calls.grew_of (CI _))))
  exact kT):p:=h
theorem bP(h:p:=by
 clear hh;have A93:=trivial;exact TG):p:=h
theorem kU(h:p:=by
 have A94:=trivial;exact Im):p:=h
theorem kV(h:p:=by
 have cv2:=Kf V3;have P3:=P1.keep b3;have Q3:=P2.keep b3;have O4:=O2.keep b3;have A95:=trivial;exact kW):p:=h
theorem kX(h:p:=by
 have A96:=trivial;exact kY):p:=h
theorem gZ(h:p:=by
 have HCD:Hid (cd=10):=ed;go_wp2_with fail
 refine (Du g 10 _ p7 f7 dC).mono ?_;rintro e w2 ⟨rfl,hw2⟩;have FC:=H5.setCode 10;exact OY):p:=h
theorem aA(h:p:=by
 obtain ⟨a,n,c,rfl,hn,hnc⟩:=VS.form V;obtain ⟨a',n',c',e,-,-,F⟩:=id V;have A97:=trivial;exact DL):p:=h
theorem Z6(h:p:=by
 obtain ⟨⟨hk1,hk2⟩,hk3,hk4,hk5⟩:=NC hok0;have hok:=lH hok0;obtain ⟨a0,n,cp0,rfl,hn1,-,hn,-,-⟩:=V.cells.at_;obtain ⟨a1,m,cp1,rfl,hm1,-,hm,-,-⟩:=V.dirty.at_;rw [hn] at hi hk1 hk2;rw [hm] at hk3;have HN:=lH hn;have HM:=lH hm;have HK4:=lH hk4;have HK5:=lH hk5;clear hok0 hn hm hk4 hk5
 first
 |clear A3h
  go_enter Tryz.func297,Tryz.ntmps297
  go_upto_region 1 with fail
  refine cW fun wq P0 BX => ?_;obtain ⟨p0,p1⟩:=P0.c2;go_wp2;go_loop [5] (fun k=>∃ j:Nat,j≤m∧k = .int .i64 ((j:Int) - 1)∧Hid (DG d i=Fd d i j)) (fun k=>((intOf k)+1).toNat)
  case atStart=>exact ⟨m,Nat.le_refl _,rfl,by unfold Hid;rw [← Wl,HM.out]⟩
  case round =>
   obtain ⟨j,hj,rfl,hrd⟩:=hrel;have hB:=BX
   cases j with
   | zero =>
    have A98:=trivial;exact jI
   | succ j =>
    have A99:=trivial;exact im
 |go_enter Tryz.func217,Tryz.ntmps217
  go_wp2_with fail
  refine (Mn _ _ d _ (V.keep (bW))).mono ?_;rintro e wq ⟨rfl,bq⟩;rw [hok.out];have BX:Below w w wq:=AD bq (bW);have P0:Bx wq w [.slice a0 n cp0, .slice a1 m cp1]:=(Bx.new w #[.slice a0 n cp0, .slice a1 m cp1] 47 [.slice a0 n cp0, .slice a1 m cp1] rfl zS _ rfl).keep bq;obtain ⟨p0,p1⟩:=P0.c2;clear bq;go_wp2;go_loop [6] (fun k=>∃ j:Nat,j≤m∧k = .int .i64 ((j:Int) - 1)∧Hid (DG d i=Fd d i j)) (fun k=>((intOf k)+1).toNat)
  case atStart=>exact ⟨m,Nat.le_refl _,rfl,by unfold Hid;rw [← Wl,HM.out]⟩
  case round =>
   obtain ⟨j,hj,rfl,hrd⟩:=hrel;have hB:=BX
   cases j with
   | zero =>
    exact jI
   | succ j =>
    exact im):p:=h
theorem kZ(h:p:=by
 have B0A:=trivial;exact Lv):p:=h
theorem kf(h:p:=by
 rw [← hSB] at O3;obtain ⟨a3,n3,c3,rfl,hn3,-⟩:=VS.form O3.vs;have hn3:n3=128:=AA;exact iT):p:=h
theorem bn(h:p:=by
 go_upto_region 1 with fail
 refine cJ fun w0 P2 b2 hz => ?_;refine cV hz fun w1 P3 b3 => ?_;replace P2:=P2.keep b3;have BX:=AD b3 b2;clear hz b2 b3;obtain ⟨g3,hg3⟩:∃ u,u=w.heap.size+1:=⟨_,rfl⟩;rw [← hg3] at P3 ⊢;have h23:w.heap.size<g3:=AA;clear hg3;go_wp2_with fail
 first
 |clear A4q
  refine (A0e w1).mono ?_;have B0B:=trivial;exact kg
 |refine (A15 w1).mono ?_;exact kg):p:=h
theorem kh(h:p:=by
 refine tK 24 ?_;refine tK 25 ?_;exact jC):p:=h
theorem Di(h:p:=by
 have B0C:=trivial;exact TH):p:=h
theorem Lq(h:p:=by
 have B0D:=trivial;exact OU):p:=h
theorem B0E(h:p:=by
 go_wp2;go_ret;obtain ⟨rest,ho,hr⟩:=hown;have e:k=len:=AA;subst e;have:rest = []:=List.eq_nil_of_length_eq_zero Qt
 subst this;refine ⟨⟨_,_,rfl,?_,Hxl.out,hs.2.2.1⟩,hB⟩;rw [hs.all (Nat.le_refl _)] at ho;simpa using ho):p:=h
theorem ki(h:p:=by
 have hzS:=FX.size;have QS:Bx wS ob [b2.tick,b2.next,b2.wallet, .slice a7 n7 k7, .slice a8 n8 k8, .slice a9 n9 k9]:=by rw [hwS];exact Q8.whole rfl
 replace On:=On.kept FX (fun k hk hm=>by simp at hm;subst hm;exact hF6 hk);replace Nn:=Nn.kept FX (fun k hk hm=>by simp at hm;subst hm;exact hG6 hk);replace psn:=psn.kept FX (fun k hk hm=>by have:=(psn.lt k hk).1;simp at hm;omega);replace csn:=AC.kept csn FX (fun k hk hm=>by have:=(AC.blk csn k hk).1;simp at hm;omega);replace P13:=P13.ex FX An;replace hBn:=hBn.trans (FX.below (fun k hk=>JN) oM);replace hzo:ob+1≤wS.heap.size:=AA;simp only [World.setCells,Nat.zero_add,Nat.reduceAdd] at hwS
 first
 |clear B0F
  go_upto_region 13 with fail
  have B0G:=trivial;exact kj
 |go_upto_region 12 with fail
  exact kj):p:=h
theorem fY(h:p:=by
 go_wp2_with (at_builtin;refine Da Dd Tryz.underlying161 rfl dC dC De Ed rfl _ _ rfl w1 _ L4 rfl (AC.alloc O5 _) _ [0] rfl (AK.lit1 _ 0 0 rfl).vs dS sM (Nat.le_trans z5 (Aj _ _)) ?_)
 have B0H:=trivial;exact kk):p:=h
theorem fX(h:p:=by
 go_wp2_with (at_builtin;refine Da Dd Tryz.underlying161 rfl dC dC De Ed rfl _ _ rfl w1 _ L4 rfl (AC.alloc O5 _) _ [1] rfl (AK.lit1 _ 1 1 rfl).vs dS sM (Nat.le_trans z5 (Aj _ _)) ?_)
 exact kk):p:=h
theorem km(h:p:=by
 by_cases hn:h.log.next=0;rotate_left
 ·have ehn:(h.log.next == 0)=false:=Lf;have hno:Hid (¬ h=Hb.zero):=fun e=>hn EJ;clear hn;exact D3
 have ehn:(h.log.next == 0)=true:=Lf;have Hhn:=lH hn;clear hn;by_cases he:h.log.epoch=0;rotate_left
 ·have ehe:(h.log.epoch == 0)=false:=by simp [he]
  have hno:Hid (¬ h=Hb.zero):=fun e=>he EJ;clear he;exact D3
 have ehe:(h.log.epoch == 0)=true:=by simp [he]
 have Hhe:=lH he;clear he
 first
 |clear B0I
  have B0J:=trivial;exact KU
 |by_cases ha:h.book.tick=0;rotate_left
  ·(have eha:(h.book.tick == 0)=false:=by simp [ha]);have hno:Hid (¬ h=Hb.zero):=fun e=>ha EJ;clear ha;exact D3
  have eha:(h.book.tick == 0)=true:=by simp [ha]
  have Hha:=lH ha;clear ha;by_cases hb:h.book.next=0;rotate_left
  ·(have ehb:(h.book.next == 0)=false:=by simp [hb]);have hno:Hid (¬ h=Hb.zero):=fun e=>hb EJ;clear hb;exact D3
  have ehb:(h.book.next == 0)=true:=by simp [hb]
  have Hhb:=lH hb;clear hb;by_cases hc:h.book.wallet=0;rotate_left
  ·have ehc:(h.book.wallet == 0)=false:=JM;have hno:Hid (¬ h=Hb.zero):=fun e=>hc EJ;clear hc;exact D3
  have ehc:(h.book.wallet == 0)=true:=JM;have Hhc:=lH hc;clear hc;by_cases hx:h.book.chans.length=0;rotate_left
  ·have ehx:((nx:Int) == 0)=false:=An;have hno:Hid (¬ h=Hb.zero):=fun e=>hx EJ;clear hx;exact D3
  have ehx:nx=0:=AA;subst ehx;have Hhx:=lH hx;clear hx;by_cases hy:h.book.htlcs.length=0;rotate_left
  ·have ehy:((ny:Int) == 0)=false:=An;have hno:Hid (¬ h=Hb.zero):=fun e=>hy EJ;clear hy;exact D3
  have ehy:ny=0:=AA;subst ehy;have Hhy:=lH hy;clear hy;by_cases hz:h.book.circles.length=0;rotate_left
  ·have ehz:((nz:Int) == 0)=false:=An;have hno:Hid (¬ h=Hb.zero):=fun e=>hz EJ;clear hz;exact D3
  have ehz:nz=0:=AA;subst ehz;have Hhz:=lH hz;clear hz;by_cases hl:h.ledger.last=0;rotate_left
  ·have ehl:(h.ledger.last == 0)=false:=BT;have hno:Hid (¬ h=Hb.zero):=fun e=>hl EJ;clear hl;exact D3
  have ehl:(h.ledger.last == 0)=true:=BT;have Hhl:=lH hl;clear hl;by_cases hm:h.ledger.lines.length=0;rotate_left
  ·have ehm:((nl:Int) == 0)=false:=An;have hno:Hid (¬ h=Hb.zero):=fun e=>hm EJ;clear hm;exact D3
  have ehm:nl=0:=AA;subst ehm;have Hhm:=lH hm;clear hm;exact jU):p:=h
theorem TJ(h:p:=by
 have B0K:=trivial;exact ko):p:=h
theorem kp(h:p:=by
 have B0L:=trivial;exact Ja):p:=h
theorem Za(h:p:=by
 obtain ⟨k,vs,hk,rfl,hown,hB⟩:=hrel;by_cases hlt:k<len;rotate_left
 ·have e:k=len:=AA;subst e;rw [List.take_of_length_le LV] at hown;have hd:=lH (hown.done Hl.out.symm);clear hown;go_wp2;go_ret;exact ⟨⟨_,vs,rfl,hd.out⟩,hB⟩
 obtain ⟨a0,len0,cap0,e0,-,-,-,-,hat⟩:=VN.at_ (V1.keep hB);have B0M:=trivial;exact kq):p:=h
theorem kr(h:p:=by
 obtain ⟨k,z,hk,rfl,rfl,hz,hall,hB⟩:=hrel;by_cases hlt:k<len;rotate_left
 ·rw [List.take_of_length_le LV] at hall;go_wp2;go_ret;exact ⟨⟨_,rfl, .inr ⟨hz.1,hz.2,LV,hall.out⟩⟩,hB⟩
 obtain ⟨a0,len0,cap0,e0,-,-,-,-,hat⟩:=VN.at_ (W0.keep hB);exact kq):p:=h
theorem jP(h:p:=by
 have B0N:=trivial;exact Lr):p:=h
theorem jQ(h:p:=by
 have B0O:=trivial;exact Lr):p:=h
theorem Zp(h:p:=by
 have B0P:=trivial;exact Rk):p:=h
theorem kt(h:p:=by
 have hl:=ho3.lt;replace ho3:=ho3.le hs;clear p;have B0Q:=trivial;exact ku):p:=h
theorem kv(h:p:=by
 rintro e w1 ⟨rfl,b1⟩;have P1:=P0.keep b1;have V1:=V0.keep b1;have B1:=AD b1 B0;clear p0 p1 p2 p3 p4 p5;obtain ⟨p0,p1,p2,p3,p4,p5⟩:=P1.c6;cases hT0:decide (0≤D9 b.chans p)
 ·have hno:Hid (Cp b.chans p q=false):=by
   rw [Pj] at hT0;unfold Hid Cp;rw [hT0];simp
  exact BH
 have HhT0:=lH hT0;go_wp2_with fail
 first
 |clear B0R
  refine (Jy _ _ _ b q w1 V1).mono ?_;exact jW
 |refine (Hi _ _ _ b q w1 V1).mono ?_;exact jW):p:=h
theorem kw(h:p:=by
 clear hb2;have B0S:=trivial;exact Il):p:=h
theorem kx(h:p:=by
 clear hb3;exact Il):p:=h
theorem bg(h:p:=by
 subst hk0;have hcode:=vB (b:=b) (e:=⟨3,ky,ch,tt,am,fe,ys⟩) ho rfl;have hov:=(ES ho).2.2.2.1 rfl;unfold Dn;generalize AQ b ⟨3,ky,ch,tt,am,fe,ys⟩=cd at hcode ⊢;dsimp only at hcode hov;obtain ⟨A,hA⟩:∃ A,A=AM b.chans ch:=⟨_,rfl⟩;obtain ⟨q7,hq7⟩:∃ q,q=DH b ch:=⟨_,rfl⟩;rw [← hA,← hq7] at hcode;rw [← hA] at hov
 first
 |clear A4o
  have HCODE:=lH hcode;have B0T:=trivial;exact gt
 |have HC:=lH hcode;exact gt):p:=h
theorem kz(h:p:=by
 rintro e w2 ⟨⟨F2,u1,rfl,ho2⟩,hb⟩;have hl:=ho2.lt;replace ho2:=ho2.le hs;clear p;have B0U:=trivial;exact lA):p:=h
theorem lB(h:p:=by
 have B0V:=trivial;exact TK):p:=h
theorem lC(h:p:=by
 obtain ⟨rfl,b34⟩:=hcut;obtain ⟨w4,hw4⟩:∃ x,x=wc:=⟨_,rfl⟩;subst hw4;have H5:=H5.keep b34;have Q:=Q.keep b34;have WX:=WX.trans (Wf.of_below b34);clear p0 p1 p2 p3 p4 p5 x1 CA P3 V3 b34;have x1:=Q.cell 1 _ rfl;have x3:=Q.cell 3 _ rfl;go_wp2_with fail
 first
 |clear B0W
  refine (Eu _ _ g B _ [] 0 q1 q3 0 _ H5 hi1 hso Ii Ii).mono ?_;have B0X:=trivial;exact lD
 |refine (Eu _ _ g B _ [] 0 q1 0 q3 _ H5 hi1 hso Ii Ii).mono ?_;exact lD):p:=h
theorem lE(h:p:=by
 have z0:=hQ5.fz 0 AF;have s0:=hQ5.cell 0 _ rfl;have z1:=hQ5.fz 1 AF;have s1:=hQ5.cell 1 _ rfl;have z2:=hQ5.fz 2 AF;have s2:=hQ5.cell 2 _ rfl;have z3:=hQ5.fz 3 AF;have s3:=hQ5.cell 3 _ rfl;have z4:=hQ5.fz 4 AF;have s4:=hQ5.cell 4 _ rfl
 first
 |clear B0Y
  exact lF
 |have z5:=hQ5.fz 5 AF;have s5:=hQ5.cell 5 _ rfl;have z6:=hQ5.fz 6 AF;have s6:=hQ5.cell 6 _ rfl;exact lF):p:=h
theorem OE(h:p:=by
 have B0Z:=trivial;exact OZ):p:=h
theorem Il(h:p:=by
 have B0a:=trivial;exact Gu):p:=h
theorem lG(h:p:=by
 clear p0 p1 P0 B0;obtain ⟨k,hk,rfl,hall,hB,P⟩:=hrel;obtain ⟨p0,p1⟩:=P.c2;by_cases hlt:k<n
 ·exact A7R
 have hall2:Hid (d.cells.all Ga=true):=A5F;clear hall;obtain ⟨w5,rfl⟩:∃ w5:World,w5=wr:=⟨_,rfl⟩;go_wp2
 first
 |clear B0b
  go_loopw [6,39] (fun _ i wr=>∃ k:Nat,k≤m∧i=k∧Hid ((d.dirty.take k).all (IA d.cells.length)=true)∧Below w w wr∧Bx wr w [.slice a0 n cp0, .slice a1 m cp1]) (fun _ i _=>m - (intOf i).toNat)
  case atStart=>exact ⟨0,Nat.zero_le _,rfl,rfl,hB,P⟩
  case round =>
   exact fx
 |go_loopw [6,44] (fun _ i wr=>∃ k:Nat,k≤m∧i=k∧Hid ((d.dirty.take k).all (IA d.cells.length)=true)∧Below w w wr∧Bx wr w [.slice a0 n cp0, .slice a1 m cp1]) (fun _ i _=>m - (intOf i).toNat)
  case atStart=>exact ⟨0,Nat.zero_le _,rfl,rfl,hB,P⟩
  case round =>
   exact fx):p:=h
theorem lI(h:p:=by
 refine LM h rfl rfl rfl (GX _ _ _ _ _ _ _) (A1G h.pk e.key _ (GZ _ _ _ _ _ _ _) rfl rfl (GX _ _ _ _ _ _ _)) hap (fun x => -(CY x H)) (fun x => -(Bu x H)) (fun x => ?_) (fun x => ?_) (fun x => ?_) oM oM oM oM (fun n hn=>hn) ?_ (fun x => ?_) (fun x => ?_) (fun x => ?_)
 ·exact TL
 ·exact TM
 ·unfold CY Bu;by_cases e1:x=H.frm
  ·exact ZR
  by_cases e2:x=H.tw
  ·exact ZS
  exact NY
 all_goals simp only [Gg]
 ·exact Cx
 ·simp [A9,eq_comm]
 ·simp [A9,CY];split<;>simp_all
 exact Cx):p:=h
theorem TN(h:p:=by
 rintro e w2 ⟨⟨r2,rfl,hr⟩,hb⟩;have B0c:=trivial;exact TO):p:=h
theorem Lw(h:p:=by
 refine wp_region_noPanic ?_;refine wp_region_held_drew (S:=fun w'=>w'.cell? ⟨g,0,none⟩=.some b.tick∧w'.cell? ⟨g,1,none⟩=.some b.next∧w'.cell? ⟨g,2,none⟩=.some b.wallet∧w'.cell? ⟨g,3,none⟩=some (.slice ax n cx)∧w'.cell? ⟨g,4,none⟩=some (.slice ay m cy)∧w'.cell? ⟨g,5,none⟩=some (.slice az q cz)∧w'.cell? ⟨ue,2,none⟩=.some ch∧w'.cell? ⟨ue,4,none⟩=.some am) kR ?_ (fun hHeld => ?_)
 ·exact Bc
 have B0d:=trivial;exact lJ):p:=h
theorem lK(h:p:=by
 obtain ⟨q2,r2,rfl,rfl,hqr,hX2⟩:=hrel;by_cases hrc:c≤r2
 ·have Hn:=lH (uw hX2.out hrc);clear hX2;go_wp2;go_round
  case rel=>exact ⟨q2+1,r2 - c,Ab,Fu oM,AA,Hn⟩
  case measure=>simp [intOf];omega
 by_cases hbig:1125899906842624<q2
 ·have Hk:=lH (A1M hX2.out oM hbig);clear hX2 Hb;go_wp2;go_ret3;exact ⟨Y9,rfl⟩
 go_wp2;go_round
 case rel=>exact ⟨(k:Int) - 1,q2,r2,AA,AA,rfl,rfl,rfl,AA,AA,A49⟩
 case measure=>simp [intOf]<;>omega):p:=h
theorem OJ(h:p:=by
 obtain ⟨rfl,b01⟩:=hcut;obtain ⟨w1,hw1⟩:∃ w1,w1=wc:=⟨_,rfl⟩;subst hw1;have P1:=P0.keep b01;have PE:=PE.keep b01;have H1:=H0.keep b01;have V1:=V0.keep b01;have W1:=W0.trans (Wf.of_below b01);clear p0 p1 p2 p3 p4 p5 c1 P0 CA H0 b01 V0 W0
 first
 |clear A6X
  obtain ⟨ar,nr,cr,p4,hnr,hncr,OR,VR,HR⟩:=H1.ht;have hpp:=P1.cell 4 _ rfl;rw [p4] at hpp;have B0e:=trivial;exact lL
 |clear A6Y
  obtain ⟨ar,nr,cr,p5,hnr,hncr,OR,VR,HR⟩:=H1.ci;have hpp:=P1.cell 5 _ rfl;rw [p5] at hpp;exact lL
 |go_wp2_with fail
  refine (D5 F _ g B b ls c0 15 true w1 H1).mono ?_;rintro e w2 ⟨rfl,H2,W2⟩;have W3:=W1.trans W2;have B0f:=trivial;exact Ie):p:=h
theorem TP(h:p:=by
 have B0g:=trivial;exact El):p:=h
theorem lM(h:p:=by
 go_cut [] (fun wq=>wq=World.drew (World.setCell w8 ⟨g,2,none⟩ (Value.int IntKind.i64 (b.wallet - am))))
 case first =>
  exact EP
 have B0h:=trivial;exact TQ):p:=h
theorem lN(h:p:=by
 rintro e w2 ⟨⟨ob,rfl,ho⟩,hb⟩;have hB2:Below w w w2:=AD hb (bW);have hown2:=hown.keep (AD hb (show Below wr wr _ from bW));have hlt2:=hown.lt;obtain ⟨hgB,hgw,hcl,hfz⟩:=hown2.cells (by rw [List.length_take];have:=Hl.out;omega);rw [List.length_take,Nat.min_eq_left LV] at hcl;have B0i:=trivial;exact lO):p:=h
theorem lP(h:p:=by
 by_cases hxy:x.id=ch
 ·have e0:(x.id == ch)=true:=Dl;have hres:Hid (D9 b.chans ch=(k:Int)):=Vz hall.out hx.out hxy;exact TR
 have e0:(x.id == ch)=false:=Dl;have hgo:=lH (IQ (p:=fun y:Cn=>decide (y.id=ch)) ht.out hall.out Dl);exact TS):p:=h
theorem lQ(h:p:=by
 obtain ⟨z2,hz2⟩:∃ z2,z2=zs ++ [b]:=⟨_,rfl⟩;rw [← hz2] at own';have HZ2:Hid (z2=xs ++ (ys ++ [b])):=by unfold Hid;rw [hz2,HZ.out,List.append_assoc]
 obtain ⟨va',vc',rfl,-⟩:=AK.form own';clear ho hw hb' hg' hz2;go_wp2;go_roundw
 case rel=>exact ⟨i,ys ++ [b],rfl,by rw [List.length_append,List.length_singleton];omega,by rw [← HZ2.out];exact own',hbe2,hb2⟩
 case measure=>simp only [intOf];omega):p:=h
theorem TT(h:p:=by
 rintro e w1 ⟨⟨F1,u0,rfl,ho1⟩,hb⟩;have hl:=ho1.lt;replace ho1:=ho1.le hs;clear p;have hnd:=ho1.nd;have B0j:=trivial;exact KT):p:=h
theorem lR(h:p:=by
 have B0k:=trivial;exact TU):p:=h
theorem lS(h:p:=by
 obtain ⟨hTx,exx,hZ⟩:=hTx;replace hT:=hTx;replace hs:X0.heap.size≤X5.heap.size:=Gr;have B0l:=trivial;exact Oa):p:=h
theorem Sg(h:p:=by
 have B0m:=trivial;exact Gt):p:=h
theorem lT(h:p:=by
 rintro e w6 ⟨gx1,nx1,cx1,ia,a,hxe,-,ai,aid,-,rfl,b6⟩;simp only [Value.slice.injEq] at hxe;obtain ⟨e1,e2,e3⟩:=hxe;subst e1;subst e2;subst e3;exact iG):p:=h
theorem lU(h:p:=by
 rintro e w4 ⟨⟨F4,v4,rfl,EO⟩,bx⟩;exact OQ):p:=h
theorem lV(h:p:=by
 have B0n:=trivial;exact TV):p:=h
theorem lW(h:p:=by
 obtain ⟨a',n',c',e,hca,hnl,FK⟩:=id VK;have B0o:=trivial;exact DL):p:=h
theorem lX(h:p:=by
 have B0p:=trivial;exact Lx):p:=h
theorem lY(h:p:=by
 have B0q:=trivial;exact Im):p:=h
theorem kO(h:p:=by
 have B0r:=trivial;exact KS):p:=h
theorem lZ(h:p:=by
 have B0s:=trivial;exact OV):p:=h
theorem kQ(h:p:=by
 have B0t:=trivial;exact KS):p:=h
theorem B0u(h:p:=by
 subst hxy;have hgo:Hid (hs1.take (k+1)=hs2.take (k+1)):=Rw;clear hx hy htx hty;go_upto_region 12 with fail
 go_quiet (fail)
 go_wp2;go_roundw
 case rel=>exact ⟨k+1,AA,Ab,hgo,C8 hB1⟩
 case measure=>simp only [intOf];omega):p:=h
theorem B0v(h:p:=by
 subst hxy;have hgo:Hid (zs1.take (k+1)=zs2.take (k+1)):=Rw;clear hx hy htx hty;go_upto_region 18 with fail
 go_quiet (fail)
 go_wp2;go_roundw
 case rel=>exact ⟨k+1,AA,Ab,hgo,C8 hB2⟩
 case measure=>simp only [intOf];omega):p:=h
theorem j4(h:p:=by
 clear hcode;have B0w:=trivial;exact TW):p:=h
theorem B0x(h:p:=by
 subst hxy;have hgo:Hid (cs1.take (k+1)=cs2.take (k+1)):=Rw;clear hx hy htx hty;go_upto_region 6 with fail
 go_quiet (fail)
 go_wp2;go_roundw
 case rel=>exact ⟨k+1,AA,Ab,hgo,C8 hB0⟩
 case measure=>simp only [intOf];omega):p:=h
theorem gk(h:p:=by
 have ack:=hcks a (List.mem_of_getElem? ai);have dck:=hcks d (List.mem_of_getElem? di);exact fM):p:=h
theorem B0y(h:p:=by
 subst hxy;have hgo:Hid (xs.take (k+1)=ys.take (k+1)):=A5S;clear hx hy htx hty;go_upto_region 6 with fail
 go_quiet (fail)
 go_wp2;go_roundw
 case rel=>exact ⟨k+1,AA,Ab,hgo,C8 hB⟩
 case measure=>simp only [intOf];omega):p:=h
theorem lc(h:p:=by
 rw [hw2] at FC PS QS0 QS1;obtain ⟨zs0,zs1,zs2,zs3,zs4,zs5⟩:=PS.c6;have zue2:=QS0.cell 2 _ rfl;have zue5:=QS0.cell 5 _ rfl;have zuc2:=QS1.cell 2 _ rfl;exact Sd):p:=h
theorem ld(h:p:=by
 have FW:=FIN.2;have FK:=FIN.1;obtain ⟨PE',nE'⟩:=FW.box PE nE;obtain ⟨Q',nQ'⟩:=FW.box Q nQ;have WX':=WX.trans FW;clear FIN AT FW H5 PE nE Q nQ WX;go_wp2_with fail
 refine (CS _).mono ?_;rintro e w8 ⟨rfl,rfl⟩
 first
 |clear B0z
  go_upto_region 12 with fail
  generalize World.setCell wb2 ⟨gx1,ia*7+6,none⟩ (Value.int IntKind.i64 (Co a.score))=wb3 at FK PE' Q' WX' ⊢;have B00:=trivial;exact lf
 |go_upto_region 17 with fail
  generalize World.setCell wb2 ⟨gx1,ia*7+6,none⟩ (Value.int IntKind.i64 (Ch a.score))=wb3 at FK PE' Q' WX' ⊢;exact lf):p:=h
theorem lh(h:p:=by
 obtain ⟨r0,r1⟩:=RX.c2;obtain ⟨z0,z1⟩:=RX.z2;exact Ob):p:=h
theorem li(h:p:=by
 have B01:=trivial;exact Im):p:=h
theorem lj(h:p:=by
 rw [show Bq ⟨0,[]⟩=true from Up] at CO;go_wp2_with fail
 refine CO.mono ?_;rintro e w2 ⟨rfl,b2⟩;have LX:=LX.keep b2;have R0:=R0.keep b2;have R0z:=R0.lt;have B2:=AD b2 B1;clear CO l0 l1 b2 B1
 first
 |clear B02
  have CC:=tq (.slice none 0 0) ⟨0,[]⟩ w2 ⟨VS.nil _ _,Gl⟩ sM;dsimp only at CC;obtain ⟨l0,l1⟩:=LX.c2;go_wp2_with fail
  refine CC.mono ?_;rintro e w3 ⟨⟨F0,v3,rfl,O3⟩,b3⟩;obtain ⟨a3,n3,c3,rfl⟩:=O3.form;have R0:=R0.keep b3;have B3:=AD b3 B2;go_upto_region 4 with fail
  refine cW fun w4 Q0 b4 => ?_;have hF:w3.heap.size∉F0:=fun hm=>by have:=(O3.lt _ hm).2;omega
  have R4:=R0.keep b4;have B4:=AD b4 B3;have O4:As F0 w4 (w.heap.size+1+1) (.slice a3 n3 c3) Lg.zero:=(O3.keep b4).le R0z;obtain ⟨ob,hob⟩:∃ n,n=w3.heap.size:=⟨_,rfl⟩;rw [← hob] at Q0 hF ⊢;have hobs:w.heap.size+1<ob:=by rw [hob];exact R0.lt
  clear LX R0 B2 CC l0 l1 b3 O3 B3 b4 hob;have B4l:=B4.size;go_wp2;go_loopw [7,9,10,11,20] (fun c _ _ _ i wr=>∃ (k:Nat) (L:Lg) (cn:Int) (v:Value) (F:List Nat),k≤n∧i=k∧c=cn∧Bx wr ob [L.last,v]∧As F wr (w.heap.size+1+1) v L∧ob∉F∧Hid (DQ (ps.take k)=(L,cn))∧(0≤cn∧cn≤k)∧Below (w.heap.size+1+1) w4 wr) (fun _ _ _ _ i _=>n - (intOf i).toNat)
  case atStart=>exact ⟨0,Lg.zero,0,_,F0,Nat.zero_le _,rfl,rfl,Q0,O4,hF,rfl,AA,Below.refl _ _⟩
  case round =>
   have B03:=trivial;exact lk
 |obtain ⟨l0,l1⟩:=LX.c2;have hlx:=LX.lt;have hrx:=R0.lt;go_upto_region 3 with fail
  go_cut [6] (fun v wq=>∃ (ob:Nat) (a:Option Addr) (c:Nat),v = .pointer (some ⟨ob,0,none⟩)∧Bx wq ob [I0, .slice a 0 c]∧Bl wq w2 (.slice a 0 c) []∧Ax wq ob 57∧w2.heap.size≤ob∧Below w2 w2 wq)
  case first =>
   go_region_law (first
    | (refine Dc DS Tryz.underlying55 rfl dC dC (fun _=>rfl) Dh rfl _ _ rfl w2 (.slice (some ⟨w2,0,none⟩) 0 0) [] rfl (AC.drew ((AC.made (enc:=Ln.enc) (sz:=3) (E:=178) w2 w2 (Nat.le_refl _)).alloc (.cells #[I0, .slice none 0 0] 57))) _ [] rfl (VS.nil (ok:=Ln.ok) _ _) sM sM JS ?_;intro v8 w8 o8 b8 g8;obtain ⟨a8,c8,rfl⟩:=Bl.form o8;(try simp only [List.nil_append,List.length_nil] at o8);have b28:Below w2 w2 w8:=Below.trans (bW) b8;have LX8:=LX.keep b28;have l0:=LX8.cell 0 _ rfl;have l1:=LX8.cell 1 _ rfl;have hp8:=LX8.lt;have QB8:=Bx.grownO2 (Bx.drew (Bx.new (w2.alloc (.cells #[] 178)) #[I0, .slice none 0 0] 57 [I0, .slice none 0 0] rfl zS (w2.heap.size+1) sM)) g8 FF;have TB8:=Ax.grown (Ax.drew ((by simpa using Ax.new (w2.alloc (.cells #[] 178)) #[I0, .slice none 0 0] 57:Ax _ (w2.heap.size+1) _))) g8 FF;have q0:=QB8.cell 0 _ rfl;have q1:=QB8.cell 1 _ rfl;have y0:=QB8.fz 0 zS;have y1:=QB8.fz 1 EM)
    | (refine Dc DS Tryz.underlying55 rfl dC dC (fun _=>rfl) Dh rfl _ _ rfl w2 (.slice (some ⟨w2,0,none⟩) 0 0) [] rfl (AC.drew (AC.made (enc:=Ln.enc) (sz:=3) (E:=178) w2 w2 (Nat.le_refl _))) _ [] rfl (VS.nil (ok:=Ln.ok) _ _) sM sM JS ?_;intro v8 w8 o8 b8 g8;obtain ⟨a8,c8,rfl⟩:=Bl.form o8;(try simp only [List.nil_append,List.length_nil] at o8);have b28:Below w2 w2 w8:=Below.trans (bW) b8;have LX8:=LX.keep b28;have l0:=LX8.cell 0 _ rfl;have l1:=LX8.cell 1 _ rfl;have hp8:=LX8.lt)
    | (refine Dc DS Tryz.underlying55 rfl dC dC (fun _=>rfl) Dh rfl _ _ rfl w2 (.slice (some ⟨w2.heap.size+1,0,none⟩) 0 0) [] rfl (AC.drew (by simpa using AC.made (enc:=Ln.enc) (sz:=3) (E:=178) (w2.alloc (.cells #[I0, .slice none 0 0] 57)) w2 (Aj _ _))) _ [] rfl (VS.nil (ok:=Ln.ok) _ _) sM sM JS ?_;intro v8 w8 o8 b8 g8;obtain ⟨a8,c8,rfl⟩:=Bl.form o8;(try simp only [List.nil_append,List.length_nil] at o8);have b28:Below w2 w2 w8:=Below.trans (bW) b8;have LX8:=LX.keep b28;have l0:=LX8.cell 0 _ rfl;have l1:=LX8.cell 1 _ rfl;have hp8:=LX8.lt;have QB8:=Bx.grownO2 (Bx.drew ((Bx.new w2 #[I0, .slice none 0 0] 57 [I0, .slice none 0 0] rfl zS w2 rfl).alloc (.cells #[] 178))) g8 FF;have TB8:=Ax.grown (Ax.drew ((Ax.new w2 #[I0, .slice none 0 0] 57).keep (Ae (Below.refl _ _) (.cells #[] 178)))) g8 FF;have q0:=QB8.cell 0 _ rfl;have q1:=QB8.cell 1 _ rfl;have y0:=QB8.fz 0 zS;have y1:=QB8.fz 1 EM))
   all_goals
    go_wp2_with fail
    go_meet
    case rel=>first
     | exact ⟨w8,a8,c8,rfl,Bx.new _ _ _ [I0, .slice a8 0 c8] rfl zS _ rfl,AC.alloc o8 _,Ax.new _ _ _,b28.size,bW⟩
     | exact ⟨w2.heap.size+1,a8,c8,rfl,(QB8.set1 0 I0 zS).set1 1 (.slice a8 0 c8) EM,AC.kept o8 (Ex.setCell (Ex.setCell (Ex.refl [w2.heap.size+1] w8) sM _) sM _) (fun k hk hm=>Nu),(TB8.set _ _ _).set _ _ _,AA,Below.setCell (Below.setCell b28 sM _) sM _⟩
     | exact ⟨w2,a8,c8,rfl,(QB8.set1 0 I0 zS).set1 1 (.slice a8 0 c8) EM,AC.kept o8 (Ex.setCell (Ex.setCell (Ex.refl [w2] w8) sM _) sM _) (fun k hk hm=>Nu),(TB8.set _ _ _).set _ _ _,AA,Below.setCell (Below.setCell b28 sM _) sM _⟩
  case rest =>
  obtain ⟨ob,a3,c3,rfl,Q0,O3,T3,hobg,b4⟩:=hcut;obtain ⟨w4,hw4⟩:∃ w4,w4=wc:=⟨_,rfl⟩;subst hw4;have R4:=R0.keep b4;have B4:=AD b4 B2;have O4:As (Value.slice a3 0 c3).ownBlock.toList w4 (w.heap.size+1+1) (.slice a3 0 c3) Lg.zero:=⟨_,(RwO.mk' O3 sM).le R0z,rfl,GA _,Gl⟩;have hF:ob∉(Value.slice a3 0 c3).ownBlock.toList:=T3.ne O3 dC;obtain ⟨F0,hF0⟩:∃ F,F=(Value.slice a3 0 c3).ownBlock.toList:=⟨_,rfl⟩;rw [← hF0] at O4 hF;have hobs:w.heap.size+1<ob:=AA;clear LX R0 B2 l0 l1 O3 b4 T3 hF0 hobg;have B4l:=B4.size;go_wp2;go_loopw [7,9,10,11,25] (fun c _ _ _ i wr=>∃ (k:Nat) (L:Lg) (cn:Int) (v:Value) (F:List Nat),k≤n∧i=k∧c=cn∧Bx wr ob [L.last,v]∧As F wr (w.heap.size+1+1) v L∧ob∉F∧Hid (DQ (ps.take k)=(L,cn))∧(0≤cn∧cn≤k)∧Below (w.heap.size+1+1) w4 wr) (fun _ _ _ _ i _=>n - (intOf i).toNat)
  case atStart=>exact ⟨0,Lg.zero,0,_,F0,Nat.zero_le _,rfl,rfl,Q0,O4,hF,rfl,AA,Below.refl _ _⟩
  case round =>
   exact lk):p:=h
theorem ll(h:p:=by
 clear H5;obtain ⟨H5,W6⟩:=hcut;have B04:=trivial;exact Ij):p:=h
theorem fw(h:p:=by
 rintro e w4 ⟨rfl,b4⟩;clear l0 l1 p0 p1;have LX:=LX.keep b4;have PX:=PX.keep b4;have RX:=RX.keep b4;have VLx:=VLx.keep b4;have VPx:=VPx.keep b4;have B4:=AD b4 B3;cases hl:Bq ⟨l.last,l.lines⟩
 first
 |clear A7A
  ·have B05:=trivial;exact lm
  have B06:=trivial;exact lr
 |·exact lm
  exact lr):p:=h
theorem lu(h:p:=by
 rintro e w5 ⟨rfl,hb⟩;have B07:=trivial;exact Ly):p:=h
theorem lw(h:p:=by
 have z6:=P6.cell;exact TY):p:=h
theorem GS(h:p:=by
 have B08:=trivial;exact El):p:=h
theorem GT(h:p:=by
 have B09:=trivial;exact El):p:=h
theorem Rl(h:p:=by
 have B1A:=trivial;exact SW):p:=h
theorem Lt(h:p:=by
 have e0:=PE.cell 0 _ rfl;have e1:=PE.cell 1 _ rfl;have e2:=PE.cell 2 _ rfl;have e3:=PE.cell 3 _ rfl;have e4:=PE.cell 4 _ rfl;have e5:=PE.cell 5 _ rfl;have e6:=PE.cell 6 _ rfl;go_wp2_with fail
 first
 |clear A9P
  refine (tY F _ g B0 b 6 ky ch tt am fe ys _ H hb ho rfl).mono ?_;exact Do
 |clear A9Q
  refine (A1C F _ g B0 b 7 ky ch tt am fe ys _ H hb ho rfl).mono ?_;exact Do
 |clear A9R
  refine (A1m F _ g B0 b ky ch tt am fe ys _ H hb ho).mono ?_;exact Do
 |clear A9T
  refine (xy F _ g B0 b 10 ky ch tt am fe ys _ H hb ho rfl).mono ?_;exact Do
 |refine (xO F _ g B0 b 11 ky ch tt am fe ys _ H hb ho rfl).mono ?_;exact Do):p:=h
theorem Nb(h:p:=by
 rintro e w1 ⟨⟨r1,rfl,hr⟩,hb⟩;have B1B:=trivial;exact lx):p:=h
theorem Oc(h:p:=by
 refine wp_region_held_drew (S:=fun w'=>w'.cell? ⟨g,0,none⟩=.some b.tick∧w'.cell? ⟨g,1,none⟩=.some b.next∧w'.cell? ⟨g,2,none⟩=.some b.wallet∧w'.cell? ⟨g,3,none⟩=some (.slice (some ⟨gx,0,none⟩) n cx)∧w'.cell? ⟨g,4,none⟩=some (.slice ay m cy)∧w'.cell? ⟨g,5,none⟩=some (.slice az q cz)∧w'.cell? ⟨ue,2,none⟩=.some ch∧w'.cell? ⟨ue,3,none⟩=.some tt∧w'.cell? ⟨ue,4,none⟩=.some am∧w'.cell? ⟨gx,ia*7+2,none⟩=.some A.loc∧w'.cell? ⟨gx,jd*7+3,none⟩=.some D.rem) kR ?_ (fun hHeld => ?_)
 ·exact Bc
 exact lJ):p:=h
theorem ly(h:p:=by
 obtain ⟨ae,ne,ke,rfl⟩:=EO.form;have hel:=tu h.log.disk
 have hform:(ae=none∧ne=0∧ke=0)∨∃ g,ae=some ⟨g,0,none⟩:=by
  rcases EO.own.2 with ⟨e,_⟩ | ⟨g,cap,cur,e,_⟩
  ·injection e with e1 e2 e3
   exact Or.inl ⟨e1,e2,e3⟩
  injection e with e1 e2 e3
  exact Or.inr ⟨g,e1⟩
 have HF:=lH hform;have EV:=Qf EO;have HNE:=lH (VS.form' EV);clear hform EO;go_wp2_with fail
 first
 |clear B1C
  refine (vK _ (Av h.log.disk) _ EV oM).mono ?_;have B1D:=trivial;exact iV
 |refine (A0l _ (Av h.log.disk) _ EV oM).mono ?_;exact iV):p:=h
theorem gB(h:p:=by
 have B1E:=trivial;exact Od):p:=h
theorem TZ(h:p:=by
 have hl1:L1.length=i:=A5n;have hl2:L2.length≤60:=dp
 have hok:∀ y∈L1 ++ L2,y.ok:=fun y hy=>by
  rcases List.mem_append.1 hy with hy | hy
  ·rw [hL1] at hy;exact OKS y (List.mem_of_mem_take hy)
  rw [hL2] at hy;exact OKS y (List.mem_of_mem_drop hy)
 have hLL:L1 ++ L2=L:=A5o;rw [← hL1] at VT;rw [← hL2] at VD;have HOK:=lH hok;have HLL:=lH hLL
 first
 |clear B1F
  have HL1:=lH hl1;clear OKS hok hLL hL1 hL2 hl1;refine wp_region_noPanic ?_;refine II (S:=fun w'=>w'.cell? ⟨g,3,none⟩=some (.slice (some ⟨gx,0,none⟩) n cx)) (last:=21) kR ?_ (fun hHeld => ?_)
  ·exact Bc
  have B1G:=trivial;exact OZ
 |clear OKS hok hLL hL1 hL2
  first
  |clear B1H
   go_region_law (first
    | ((fail_if_success (have ht:=o8));refine Dc Hz Tryz.underlying51 rfl dC dC (fun _=>rfl) JI rfl _ _ rfl w2 (.slice none 0 0) [] rfl (AC.nil _ _) _ L1 rfl (VT _ (bW)) sM oM SH ?_;intro v8 w8 o8 b8 g8;rw [List.nil_append] at o8;obtain ⟨a8,c8,rfl,-⟩:=AC.of (ok:=fun _=>True) o8 (fun _ _=>trivial);rw [hl1];rw [hl1] at o8;have B8:Below w2 w2 w8:=Below.trans (bW) b8;have P8:=P2.keepL B8 hPl;have p8:=P8.cell 4 _ rfl;have z8:=P8.fz 4 AF;clear b8 g8)
    | (refine Dc Hz Tryz.underlying51 rfl dC dC (fun _=>rfl) JI rfl _ _ rfl w2 (.slice a8 i c8) L1 rfl dt _ L2 rfl (VD _ (bW) _ Nx) oM oM du ?_;intro v9 w9 o9 b9 g9;rw [HLL.out] at o9;obtain ⟨a9,c9,rfl,-⟩:=AC.of (ok:=fun _=>True) o9 (fun _ _=>trivial);have B9:Below w2 w2 w9:=Below.trans (bW) b9;have P9:=P2.keepL B9 hPl;have p9:=P9.cell 4 _ rfl;have z9:=P9.fz 4 AF;clear b9 g9))
   all_goals
    obtain ⟨F',FK,FW⟩:=HR w9 _ L (Ex.of_below B9 _) (AC.le o9 dw) (fun k hk=>Or.inr (Cj o9 k hk).1) SI
    go_wp2_with fail
    all_goals
     go_meet
     case rel=>first | exact ⟨F',FK,FW⟩ | exact ⟨F',FK.keep (Below.drew (Below.refl _ _)),FW.trans (Wf.of_below (Below.drew (Below.refl _ _)))⟩
  |go_region_law (first
    | ((fail_if_success (have ht:=o8));refine Dc IM Tryz.underlying52 rfl dC dC (fun _=>rfl) I3 rfl _ _ rfl w2 (.slice none 0 0) [] rfl (AC.nil _ _) _ L1 rfl (VT _ (bW)) sM oM SH ?_;intro v8 w8 o8 b8 g8;rw [List.nil_append] at o8;obtain ⟨a8,c8,rfl,-⟩:=AC.of (ok:=fun _=>True) o8 (fun _ _=>trivial);rw [hl1];rw [hl1] at o8;have B8:Below w2 w2 w8:=Below.trans (bW) b8;have P8:=P2.keepL B8 hPl;have p8:=P8.cell 5 _ rfl;have z8:=P8.fz 5 AF;clear b8 g8)
    | (refine Dc IM Tryz.underlying52 rfl dC dC (fun _=>rfl) I3 rfl _ _ rfl w2 (.slice a8 i c8) L1 rfl dt _ L2 rfl (VD _ (bW) _ Nx) oM oM du ?_;intro v9 w9 o9 b9 g9;rw [HLL.out] at o9;obtain ⟨a9,c9,rfl,-⟩:=AC.of (ok:=fun _=>True) o9 (fun _ _=>trivial);have B9:Below w2 w2 w9:=Below.trans (bW) b9;have P9:=P2.keepL B9 hPl;have p9:=P9.cell 5 _ rfl;have z9:=P9.fz 5 AF;clear b9 g9))
   all_goals
    obtain ⟨F',FK,FW⟩:=HR w9 _ L (Ex.of_below B9 _) (AC.le o9 dw) (fun k hk=>Or.inr (Cj o9 k hk).1) SI
    go_wp2_with fail
    all_goals
     go_meet
     case rel=>first | exact ⟨F',FK,FW⟩ | exact ⟨F',FK.keep (Below.drew (Below.refl _ _)),FW.trans (Wf.of_below (Below.drew (Below.refl _ _)))⟩):p:=h
theorem TY(h:p:=by
 have y0:=z6 0 _ rfl;have y1:=z6 1 _ rfl;have y2:=z6 2 _ rfl;have y3:=z6 3 _ rfl;have y4:=z6 4 _ rfl;have y5:=z6 5 _ rfl;have y6:=z6 6 _ rfl;clear z6
 first
 |clear B1I
  go_wp2_with (at_builtin;refine I1 D4 Tryz.underlying50 rfl dC dC (fun _=>rfl) ER rfl _ _ rfl w2 _ KK rfl (AC.alloc ho _) _ (⟨ch,am+fe,am,fe,0,0,0⟩:Cn) rfl (BC _ _ _ rfl) oM (Nat.le_trans hB.size (Aj _ _)) ?_)
  intro v8 w8 o8 g8 f8;rw [HKL.out] at o8;have B1J:=trivial;exact Oe
 |clear B1K
  go_wp2_with (at_builtin;refine I1 D4 Tryz.underlying50 rfl dC dC (fun _=>rfl) ER rfl _ _ rfl w2 _ KK rfl (AC.alloc ho6 _) _ (⟨ch,am+fe,am,fe,0,0,0⟩:Cn) rfl (BC _ _ _ rfl) oM (Nat.le_trans hB6.size (Aj _ _)) ?_)
  intro v7 w7 o7 g7 f7;rw [← HE1.out] at o7;obtain ⟨a7,c7,rfl,-⟩:=AC.of (ok:=fun _=>True) o7 (fun _ _=>trivial);have b67:Ex (Value.slice ao KK.length co).ownBlock.toList w6 w7:=(Ex.of_below (Ae (Below.refl w6 w6) _) _).trans (Ex.of_grown g7);have hs67:=b67.size
  have hun7:Hid (uo∉(Value.slice a7 K1.length c7).ownBlock.toList):=fun hm=>by
   have h6:=hQ6.lt;rcases f7 uo N7 with h | h
   ·exact hun.out Gi
   exact Of
  have hnx7:Hid (ux∉(Value.slice a7 K1.length c7).ownBlock.toList):=fun hm=>by
   have h6:=P6.lt;rcases f7 ux N7 with h | h
   ·exact hnx.out Gi
   exact Of
  have hQ7:=hQ6.ex b67 hun.out;have P7:=P6.ex b67 hnx.out;have hB7:Below w2 w2 w7:=hB6.trans (b67.below (fun k hk=>(Cj ho6 k hk).1) hB6.size);clear f7 g7 b67 hQ6 P6 ho6 hB6 hun hnx HE1 y0 y1 y2 y3 y4 y5 y6;go_upto_region 12 with fail
  obtain ⟨w6,hw6⟩:∃ x,x=w7:=⟨_,rfl⟩;rw [← hw6] at o7 hQ7 P7 hB7 ⊢;have hun:=hun7;have hQ6:=hQ7;have P6:=P7;have hB6:=hB7;have ho6:=o7;clear hun7 hQ7 P7 hB7 o7 hw6 hnx7;have B1L:=trivial;exact lw
 |first
  |clear B1L
   (go_wp2_with (at_builtin;refine I1 D4 Tryz.underlying50 rfl dC dC (fun _=>rfl) ER rfl _ _ rfl w2 _ K1 rfl (AC.alloc ho6 _) _ (⟨x0,x1,x2,x3,x4,x5,x6⟩:Cn) rfl (BC _ _ _ rfl) oM (Nat.le_trans hB6.size (Aj _ _)) ?_));have B1M:=trivial;exact Lz
  |(go_wp2_with (at_builtin;refine I1 D4 Tryz.underlying50 rfl dC dC (fun _=>rfl) ER rfl _ _ rfl w2 _ KK rfl (AC.alloc ho6 _) _ (⟨x0,x1,x2,x3,x4,x5,x6⟩:Cn) rfl (BC _ _ _ rfl) oM (Nat.le_trans hB6.size (Aj _ _)) ?_));have B1N:=trivial;exact Lz):p:=h
theorem Ta(h:p:=by
 rw [List.all_eq_true];intro y hy;obtain ⟨j,hj,e⟩:=List.getElem_of_mem hy;rw [List.length_take] at hj;have hb:=hbef j oM;rw [List.getElem_take] at e;rw [e] at hb;simpa using hb):p:=h
theorem mA(h:p:=by
 have c1ue3:=Ec10.cell 3 _ rfl;have c1k0:=A6D;have c1k1:=(Hc1.at di HDid.out hso).1 1 _ rfl;have c1k2:=(Hc1.at di HDid.out hso).1 2 _ rfl;have c1k3:=(Hc1.at di HDid.out hso).1 3 _ rfl;have c1k4:=(Hc1.at di HDid.out hso).1 4 _ rfl;have c1k5:=(Hc1.at di HDid.out hso).1 5 _ rfl;have c1k6:=(Hc1.at di HDid.out hso).1 6 _ rfl
 first
 |clear B1O
  have B1P:=trivial;exact gD
 |exact Sj):p:=h
theorem mB(h:p:=by
 have c1ue2:=Ec10.cell 2 _ rfl;have c1k0:=A6C;have c1k1:=(Hc1.at ai HAid.out hso).1 1 _ rfl;have c1k2:=(Hc1.at ai HAid.out hso).1 2 _ rfl;have c1k3:=(Hc1.at ai HAid.out hso).1 3 _ rfl;have c1k4:=(Hc1.at ai HAid.out hso).1 4 _ rfl;have c1k5:=(Hc1.at ai HAid.out hso).1 5 _ rfl;have c1k6:=(Hc1.at ai HAid.out hso).1 6 _ rfl
 first
 |clear B1Q
  exact gD
 |have B1R:=trivial;exact Sj):p:=h
theorem ZW(h:p:=by
 go_wp2_with fail
 refine (zK _ x _ (by first | exact V0.keep (bW)) hlen).mono ?_;rintro e w1 ⟨⟨ob,rfl,ho⟩,hb⟩;have B1:=AD hb (bW:Below w w _);obtain ⟨hc0,hf0,hs0,hz0⟩:=AS hb;exact lO):p:=h
theorem Z1(h:p:=by
 obtain ⟨a',n',c',e,hc,hnil,F⟩:=h;have B1S:=trivial;exact DL):p:=h
theorem bm(h:p:=by
 obtain ⟨ax,nx,cx,rfl,-,-⟩:=VS.form V.chans;obtain ⟨ay,ny,cy,rfl,-,-⟩:=VS.form V.htlcs;obtain ⟨az,nz,cz,rfl,-,-⟩:=VS.form V.circles;obtain ⟨av,nv,cv,rfl,hnv,-⟩:=VS.form E;have hnB:=VS.lenB E;have HN:=lH hnv;have hres:Hid (Bo b es=es.foldl Cw ⟨b,[],[]⟩):=A5y;clear hnv
 first
 |clear A4p
  go_enter Tryz.func67,Tryz.ntmps67
  have A8p:=trivial;exact jZ
 |go_enter Tryz.func63,Tryz.ntmps63
  exact jZ):p:=h
theorem JX(h:p:=by
 clear Q1 P1 V1 B1 l1;have Q1:=Q2;have P1:=P2;have V1:=V2;have B1:=B2;have l1:=l2;clear Q2 P2 V2 B2 l2;obtain ⟨w1,hw1⟩:∃ w1,w1=w2:=⟨_,rfl⟩
 first
 |clear A8c
  first
  |clear B1T
   subst hw1;have hl1:=HN.out;have G1:=LG _ xs 14 7 w1 (V1.mono oM) oM oM oM oM;rw [← HFE.out] at G1;have q0:=Q1.cell 5 _ rfl;have z0:=Q1.fz 5 AF;have B1U:=trivial;exact Tb
  |subst hw1;have G1:=Iy _ xs 14 7 w1 (V1.mono oM) oM oM oM Cb;have q0:=Q1.cell 5 _ rfl;have z0:=Q1.fz 5 AF;(go_wp2_with fail);refine G1.mono ?_;rintro e w2 ⟨⟨fe,gq,rfl,hfeb,Hfe⟩,rfl⟩;have hfeb:fe<72057594037927936:=hfeb;clear G1;(go_upto_region 8 with fail);clear q0 z0;exact jX
 |clear A8n
  first
  |clear B1V
   subst hw1;have HE:=HE.out;obtain ⟨p0,p1,p2,p3,p4,p5,p6⟩:=Q1.c7
   cases hok:Ah kd ky ch tt am fe ys with
   | true =>
    have C3:=zH kd ky ch tt am fe ys w1 hok;have B1W:=trivial;exact iS
   | false =>
    have C3:=yr kd ky ch tt am fe ys w1 hok;have A9F:=trivial;exact ju
  |subst hw1;have G1:=Iy _ xs 21 1 w1 (V1.mono oM) oM oM oM Cb;(go_wp2_with fail);refine G1.mono ?_;rintro e w2 ⟨⟨yv,gq,rfl,hyvb,Hyv⟩,rfl⟩;have hyvb:yv<256:=hyvb;clear G1;obtain ⟨ys,hys⟩:∃ q:Bool,((yv:Int) == 1)=q:=⟨_,rfl⟩;have q0:=Q1.cell 6 _ rfl;have z0:=Q1.fz 6 AF;(go_upto_region 10 with fail);clear q0 z0;have Q2:=Q1.set1 6 ys AF;have P2:=P1.otherC bs 6 ys oM;have V2:=V1.putB (o:=6) (v := .bool ys) (Nat.le_refl bs);have B2:Below w w (w1.setCell ⟨bs,6,none⟩ ys):=Below.setCell B1 GJ _;have l2:bs<(w1.setCell ⟨bs,6,none⟩ ys).heap.size:=JR;generalize w1.setCell ⟨bs,6,none⟩ ys=w2 at Q2 P2 V2 B2 l2 ⊢;exact JX
 |subst hw1
  first
  |clear B1X
   have G1:=Iy _ xs 2 3 w1 (V1.mono oM) oM oM oM Cb;have q0:=Q1.cell 1 _ rfl;have z0:=Q1.fz 1 AF;(go_wp2_with fail);refine G1.mono ?_;rintro e w2 ⟨⟨ky,gq,rfl,hkyb,Hky⟩,rfl⟩;have hkyb:ky<16777216:=hkyb;clear G1;(go_upto_region 4 with fail);exact i8
  |clear B1Y
   have G1:=Iy _ xs 6 1 w1 (V1.mono oM) oM oM oM Cb;have q0:=Q1.cell 3 _ rfl;have z0:=Q1.fz 3 AF;(go_wp2_with fail);refine G1.mono ?_;rintro e w2 ⟨⟨tt,gq,rfl,httb,Htt⟩,rfl⟩;have httb:tt<256:=httb;clear G1;(go_upto_region 6 with fail);clear q0 z0;have Q2:=Q1.set1 3 tt AF;have P2:=P1.otherC bs 3 tt oM;have V2:=V1.putB (o:=3) (v := .int .i64 tt) (Nat.le_refl bs);have B2:Below w w (w1.setCell ⟨bs,3,none⟩ tt):=Below.setCell B1 GJ _;have l2:bs<(w1.setCell ⟨bs,3,none⟩ tt).heap.size:=JR;generalize w1.setCell ⟨bs,3,none⟩ tt=w2 at Q2 P2 V2 B2 l2 ⊢;have B1Z:=trivial;exact JX
  |clear B1Z
   have G1:=Iy _ xs 7 7 w1 (V1.mono oM) oM oM oM Cb;have q0:=Q1.cell 4 _ rfl;have z0:=Q1.fz 4 AF;(go_wp2_with fail);refine G1.mono ?_;rintro e w2 ⟨⟨am,gq,rfl,hamb,Ham⟩,rfl⟩;have hamb:am<72057594037927936:=hamb;clear G1;(go_upto_region 7 with fail);exact jL
  |clear A8T
   first
   |clear B1a
    have hl1:=HN.out;have G1:=LG _ xs 7 7 w1 (V1.mono oM) oM oM oM oM;rw [← HAM.out] at G1;have q0:=Q1.cell 4 _ rfl;have z0:=Q1.fz 4 AF;have B1b:=trivial;exact Tb
   |have G1:=Iy _ xs 5 1 w1 (V1.mono oM) oM oM oM Cb;have q0:=Q1.cell 2 _ rfl;have z0:=Q1.fz 2 AF;(go_wp2_with fail);refine G1.mono ?_;rintro e w2 ⟨⟨ch,gq,rfl,hchb,Hch⟩,rfl⟩;have hchb:ch<256:=hchb;clear G1;(go_upto_region 5 with fail);clear q0 z0;have Q2:=Q1.set1 2 ch AF;have P2:=P1.otherC bs 2 ch oM;have V2:=V1.putB (o:=2) (v := .int .i64 ch) (Nat.le_refl bs);have B2:Below w w (w1.setCell ⟨bs,2,none⟩ ch):=Below.setCell B1 GJ _;have l2:bs<(w1.setCell ⟨bs,2,none⟩ ch).heap.size:=JR;generalize w1.setCell ⟨bs,2,none⟩ ch=w2 at Q2 P2 V2 B2 l2 ⊢;have B1Y:=trivial;exact JX
  |have HE:Hid (xs.length=22→Hid (Ej xs=⟨kd,ky,ch,tt,am,fe,ys⟩)):=fun h22=>by
    unfold Hid Ej;have e1:=Mk xs 1 oM;have e5:=Mk xs 5 oM;have e6:=Mk xs 6 oM;have e21:=Mk xs 21 oM;rw [← e1,← e5,← e6,← e21,← Hkd.out oM,← Hky.out oM,← Hch.out oM,← Htt.out oM,← Ham.out oM,← Hfe.out oM,← Hyv.out oM]
    congr 1
    rw [← hys,Bool.eq_iff_iff];simp;omega
   clear hys;have HE:=HE.out;obtain ⟨p0,p1,p2,p3,p4,p5,p6⟩:=Q1.c7
   cases hok:Ah kd ky ch tt am fe ys with
   | true =>
    have C3:=wD kd ky ch tt am fe ys w1 hok;exact iS
   | false =>
    have C3:=ul kd ky ch tt am fe ys w1 hok;exact ju):p:=h
theorem mC(h:p:=by
 replace hT:=hTx;replace hs:X0.heap.size≤XF.heap.size:=Gr;exact Oa):p:=h
theorem TE(h:p:=by
 refine tN 10 ?_;refine tN 11 ?_;refine tN 12 ?_;refine tN 13 ?_;refine tN 14 ?_;refine tN 15 ?_;refine tN 16 ?_;refine tK 17 ?_
 first
 |clear B1c
  refine tH 18 fun K hK => ?_;go_simp;go_at_call 260
  exact iq
 |clear A9q
  refine tK 18 ?_;have B1d:=trivial;exact FY
 |exact Tc):p:=h
theorem mD(h:p:=by
 have k1:(4294967296:Int)≤q:=AA;have k7:(1:Int)≤q:=AA;have k3:¬ ((4294967296:Int)≤r+d1):=AA;clear hbig hq hr b1 b2 b3 b4 hbr hd0;exact mE):p:=h
theorem mF(h:p:=by
 obtain ⟨hTx,exx,hZ⟩:=hTx;replace hT:=hTx;replace hs:X0.heap.size≤X4.heap.size:=Gr;have B1e:=trivial;exact Oa):p:=h
theorem mG(h:p:=by
 have e7:(c1 != 0)=true:=A8;have B1f:=trivial;exact Td):p:=h
theorem mH(h:p:=by
 have B1g:=trivial;exact Ft):p:=h
theorem mI(h:p:=by
 have B1h:=trivial;exact Te):p:=h
theorem lk(h:p:=by
 obtain ⟨k,L,cn,v,F,hk,rfl,rfl,Q,O,hF,hpf,hcb,hB⟩:=hrel;have hBw:Below w w wr:=B4.trans (hB.mono oM);have R5:=R4.keepL hB oM;obtain ⟨av,nv,cv,rfl⟩:=O.form;obtain ⟨q0,q1⟩:=Q.c2;have hql:=Q.lt;clear Q0 O4;by_cases hlt:k<n;rotate_left
 first
 |clear B03
  ·have B1i:=trivial;exact mJ
  have B1j:=trivial;exact gn
 |·exact mJ
  exact gn):p:=h
theorem Se(h:p:=by
 have P9:=PP.keepL B9 hgr;have Q9:=Q.keepL B9 hul;have p9:=P9.cell 3 _ rfl;have z9:=P9.fz 3 AF;obtain ⟨q90,q91,q92,q93,q94,q95,q96⟩:=Q9.c7;have B1k:=trivial;exact GO):p:=h
theorem ah(h:p:=by
 have B1l:=trivial;exact TH):p:=h
theorem Tf(h:p:=by
 go_simp;go_at_call 138
 refine (CA _ (V0.keep BD)).mono ?_;exact mK):p:=h
theorem mL(h:p:=by
 obtain ⟨y,z,l,P,V,-⟩:=H.cells;exact TH):p:=h
theorem mM(h:p:=by
 rintro e w1 ⟨⟨F1,u0,u1,rfl,ho1⟩,hb⟩;exact mN):p:=h
theorem mO(h:p:=by
 go_upto_region 1 with fail
 rw [← hue];generalize w.alloc (.cells #[.int .i64 3,ky,ch,tt,am,fe,ys] 73)=w0 at PE b0 ⊢;have B1m:=trivial;exact KS):p:=h
theorem mP(h:p:=by
 go_upto_region 1 with fail
 rw [← hue];generalize w.alloc (.cells #[.int .i64 2,ky,ch,tt,am,fe,ys] 73)=w0 at PE b0 ⊢;exact KS):p:=h
theorem Sl(h:p:=by
 rw [hw2] at FC PS QS0;obtain ⟨zs0,zs1,zs2,zs3,zs4,zs5⟩:=PS.c6;have zue1:=QS0.cell 1 _ rfl;have zue2:=QS0.cell 2 _ rfl;have zue3:=QS0.cell 3 _ rfl;clear hw2;go_wp2_with fail
 refine sO hK fun hHeld => ?_
 first
 |clear B1n
  first
  |clear B1o
   exact iZ
  |exact iZ
 |clear hK K
  first
  |clear B1p
   refine tK 10 ?_;have B1q:=trivial;exact kI
  |have B1r:=trivial;exact Tg):p:=h
theorem mQ(h:p:=by
 have B1s:=trivial;exact KV):p:=h
theorem ZY(h:p:=by
 go_wp2_with fail
 refine (A1U _ _ x _ (V0.keep (bW)) (V1.keep (bW))).mono ?_;rintro e w1 ⟨rfl,hb⟩;have B1:=AD hb (bW:Below w w _);obtain ⟨hc0,hf0,hs0,hz0⟩:=AS hb;exact L7):p:=h
theorem mR(h:p:=by
 have B1t:=trivial;exact KV):p:=h
theorem mS(h:p:=by
 have hok:∀ y∈L,y.ok:=fun y hy=>A57;have HX:=H.keep hB;have PX:=P.keep hB;have Q:=hQ;have x0:=Q.cell 0 _ rfl;go_wp2_with fail
 refine (Kl F _ g B b [] 0 15 wr HX).mono ?_;rintro e w2 ⟨rfl,rfl⟩
 first
 |clear B1u
  obtain ⟨ar,nr,cr,-,-,-,-,-,HR⟩:=H.htF;have B1v:=trivial;exact mT
 |obtain ⟨ar,nr,cr,-,-,-,-,-,HR⟩:=H.ciF;exact mT):p:=h
theorem mU(h:p:=by
 go_wp2_with fail
 refine (YZ _ _ _ _ _ hl h0 h1).mono ?_;rintro e w1 ⟨he,rfl⟩;rw [if_neg (by have:=H.out;omega)] at he;subst he;go_wp2;go_ret;exact ⟨⟨_,rfl, .inr ⟨AA,AA,AA⟩⟩,bW⟩):p:=h
theorem mV(h:p:=by
 obtain ⟨hd1,hd2⟩:=hdone h0;have HD1:=lH hd1;have HD2:=lH hd2;subst h0;have e7:((0:Int) != 0)=false:=rfl;clear hdone hd1 hd2;obtain ⟨al,nl,cl,rfl,hnl,-⟩:=VS.form VL;have q6:=PQ.cell 6 _ rfl
 first
 |clear B1w
  clear VQ VL;go_upto_region 31 with fail
  refine cW fun w8 U2 b9 => ?_;obtain ⟨u2,hu2⟩:∃ u,u=w7.heap.size:=⟨_,rfl⟩;rw [← hu2] at U2 ⊢;have n2:=H7.fresh;rw [← hu2] at n2;have hg7:=PQ.lt;have h2w:w.heap.size≤u2:=AA;have h2b:¬ u2=ub:=fun e=>by have:=PB.lt;omega
  exact ef
 |obtain ⟨a7,n7,c7,rfl,-,-⟩:=VS.form VQ.chans;obtain ⟨a8,n8,c8,rfl,-,-⟩:=VS.form VQ.htlcs;obtain ⟨a9,n9,c9,rfl,-,-⟩:=VS.form VQ.circles;clear VQ VL;by_cases hl:ls7 = []
  ·exact mW
  have B1x:=trivial;exact mX):p:=h
theorem iT(h:p:=by
 subst hn3;obtain ⟨a',n',c',e,-,-,F⟩:=id O3.vs;have B1y:=trivial;exact DL):p:=h
theorem mY(h:p:=by
 have B1z:=trivial;exact Dm):p:=h
theorem mZ(h:p:=by
 have B12:=trivial;exact Dm):p:=h
theorem ma(h:p:=by
 clear l0 l1 p0 p1;have LX:=LX.keep b5;have PX:=PX.keep b5;have RX:=RX.keep b5;have VLx:=VLx.keep b5;have VPx:=VPx.keep b5;have B5:=AD b5 B4;cases hp:Dz ⟨p.id,p.lines⟩
 first
 |clear B13
  ·have B14:=trivial;exact mb
  have B15:=trivial;exact mc
 |·exact mb
  exact mc):p:=h
theorem me(h:p:=by
 have B16:=trivial;exact mf):p:=h
theorem mg(h:p:=by
 go_wp2_with fail
 refine (YZ _ _ _ _ _ hl h0 h1).mono ?_;rintro e w1 ⟨he,rfl⟩;rw [if_pos h] at he;subst he;exact Gw):p:=h
theorem Zj(h:p:=by
 have B17:=trivial;exact LZ):p:=h
theorem jC(h:p:=by
 refine tN 26 ?_;refine tN 27 ?_;refine tN 28 ?_;refine tN 29 ?_;refine tN 30 ?_;refine tN 31 ?_;refine tN 32 ?_;refine tN 33 ?_
 first
 |clear A8W
  exact Tg
 |refine tN 34 ?_
  first
  |clear B18
   refine tN 35 ?_
   first
   |clear B19
    exact jN
   |refine tK 36 ?_;exact Tc
  |refine tN 35 ?_
   first
   |clear B2A
    have B2B:=trivial;exact mh
   |have B2C:=trivial;exact jN):p:=h
theorem lf(h:p:=by
 have B2D:=trivial;exact Og):p:=h
theorem OZ(h:p:=by
 refine tP 0 ?_;refine tP 1 ?_;refine tP 2 ?_;refine tP 3 ?_;refine tP 4 ?_;refine tP 5 ?_;refine tP 6 ?_;refine tP 7 ?_
 first
 |clear B0Z
  refine tP 8 ?_;refine tP 9 ?_
  first
  |clear B2E
   exact mi
  |refine tP 10 ?_
   first
   |clear A8C
    have B2F:=trivial;exact mj
   |refine QF (rs := [11,14]) kR sM ?_;refine LN rfl (fun K hK => ?_) ?_
    first
    |clear A6J
     ·exact Tf
     have A9v:=trivial;exact kM
    |·have B2G:=trivial;exact Tf
     exact kM
 |refine tP 9 ?_
  first
  |clear B1G
   refine tP 10 ?_;exact mj
  |have B2H:=trivial;exact ml):p:=h
theorem bL(h:p:=by
 intro c hc;dsimp only at hc;rcases List.mem_append.1 hc with hc | hc
 ·exact h c hc
 simp at hc;subst hc;unfold AE;omega):p:=h
theorem mm(h:p:=by
 have LES:=fun w=>Jq pk pc kd ch w;simp only [hL] at LES;by_cases hZ:amt=0
 ·exact Oh
 have hZ':(amt == 0)=false:=Lh;cases hM:CJ amt
 ·exact mo
 first
 |clear B2I
  have B2J:=trivial;exact mp
 |exact mq):p:=h
theorem B2K(h:p:=by
 have e7:(cd != 0)=true:=A8;exact Td):p:=h
theorem OV(h:p:=by
 case' rest =>
  obtain ⟨wb2,hwn⟩:∃ x,x=wc:=⟨_,rfl⟩
  subst hwn
  rw [← hcut] at FK PE' Q' WX'
  clear hcut
 have B2L:=trivial;exact Og):p:=h
theorem TF(h:p:=by
 have B2M:=trivial;exact Od):p:=h
theorem Th(h:p:=by
 have B2N:=trivial;exact OO):p:=h
theorem Ti(h:p:=by
 have hB2:Below w w w2:=AD hb2 hB;obtain ⟨g',y0,y1,y2,y3,y4,y5,y6,rest,e',hg',hr,ho,d0,d1,d2,d3,d4,d5,d6,hfz⟩:=hown2.open_ Hxl.out hlt;exact Tj):p:=h
theorem Ob(h:p:=by
 clear LX PX RX VLx VPx;go_wp2;refine bodyPost_ret dc rfl ?_;exact mr):p:=h
theorem ms(h:p:=by
 go_wp2_with fail
 refine (J4 am fe _).mono ?_;rintro e wA ⟨he,rfl⟩
 obtain ⟨sv,okv,rfl,hok,hsv⟩:∃ sv okv,e = .returned (.tuple #[.int .i64 sv, .bool okv])∧okv=(!decide (1125899906842624<am+fe))∧(okv=true→sv=am+fe):=by
  by_cases hs:am+fe≤1125899906842624
  ·rw [if_pos KL] at he;exact ⟨_,_,he,An,fun _=>rfl⟩
  rw [if_neg KL] at he;exact ⟨_,_,he,An,fun h=>by cases h⟩
 have HSV:=lH hsv;have HOK:=lH hok;clear he c4 c5 hsv hok
 first
 |clear B2O
  go_upto_region 3 with fail
  obtain ⟨w0,hw0⟩:∃ x,x=w2:=⟨_,rfl⟩;rw [← hw0] at H5 WX PE ⊢;clear hw0;exact Sb
 |go_upto_region 2 with fail
  exact TW):p:=h
theorem mu(h:p:=by
 have hs68:=b68.size;have hQ8:=hQ6.ex b68 hun.out
 have hun8:Hid (uo∉(Value.slice a8 K2.length c8).ownBlock.toList):=fun hm=>by
  have h6:=hQ6.lt;rcases f8 uo N7 with h | h
  ·exact hun.out Gi
  exact Of
 have FB:Below w2 w2 w8:=hB6.trans (b68.below (fun k hk=>(Cj ho6 k hk).1) hB6.size);clear f8 g8 b68 hQ6 ho6 P6 HE2 y0 y1 y2 y3 y4 y5 y6;go_wp2;go_roundw
 first
 |clear B2P
  case rel=>exact ⟨k+1,_,K2,true,AA,Ab,rfl,rfl,o8,hun8,hKK2,AA,hQ8,FB⟩
  case measure=>simp only [intOf];omega
 |first
  |clear B2Q
   case rel=>exact ⟨k+1,_,K2,true,AA,Ab,rfl,rfl,o8,hun8,hKK2,AA,hQ8,FB⟩
   case measure=>simp only [intOf];omega
  |case rel=>exact ⟨k+1,_,K2,false,AA,Ab,rfl,rfl,o8,hun8,hKK2,AA,hQ8,FB⟩
   case measure=>simp only [intOf];omega):p:=h
theorem mw(h:p:=by
 have BD:Below w9 w9 w9.drew:=Below.drew (Below.refl _ _);have D_0:=PX.keep BD;have d_0_12:=D_0.cell 12 _ rfl;have d_0_13:=D_0.cell 13 _ rfl;refine wp_region_noPanic ?_;refine wp_region_held_drew (S:=fun w'=>w'.cell? ⟨w,12,none⟩=some (.slice ap np cp)∧w'.cell? ⟨w,13,none⟩=some (.slice aq nq cq)) kR ?_ (fun hHeld => ?_)
 ·exact Bc
 first
 |clear B2R
  refine tK 0 ?_;refine tK 1 ?_;refine tK 3 ?_;refine tK 4 ?_;refine tH 2 fun K hK => ?_;go_simp;go_at_call 85
  refine (ww _ h.sent _ (VX.sent.keep BD) hs1).mono ?_;rintro e wc1 ⟨⟨Fq,vq,rfl,QO⟩,bc1⟩;have Bc1:Below w9 w9 wc1:=Below.trans BD (Below.mono bc1 BD.size);have Ec1_0:=PX.keep Bc1;have c1_0_12:=Ec1_0.cell 12 _ rfl;have c1_0_13:=Ec1_0.cell 13 _ rfl;obtain ⟨aq2,nq2,kq2,rfl⟩:=QO.form;have B2S:=trivial;exact Dm
 |refine tK 1 ?_;refine tK 2 ?_;refine tK 4 ?_;refine tK 5 ?_;refine tH 0 fun K hK => ?_;have B2T:=trivial;exact FV):p:=h
theorem Tk(h:p:=by
 rintro e w2 ⟨rfl,hb⟩;have B2U:=trivial;exact TO):p:=h
theorem cB(h:p:=by
 obtain ⟨ad,nd,cd,rfl,-,-,-,-,-⟩:=V.log.disk.dirty.at_;obtain ⟨ax,nx,cx,rfl,-,-⟩:=VS.form V.book.chans;obtain ⟨ay,ny,cy,rfl,-,-⟩:=VS.form V.book.htlcs;obtain ⟨az,nz,cz,rfl,-,-⟩:=VS.form V.book.circles;obtain ⟨al,nl,cl,rfl,-,-⟩:=VS.form V.ledger.lines;obtain ⟨ap,np,cp,rfl,hnp,-⟩:=VS.form V.wait;obtain ⟨aq,nq,cq,rfl,hnq,-⟩:=VS.form V.sent
 first
 |clear A4u
  have hnpB:=VS.lenB V.wait;have hnqB:=VS.lenB V.sent;go_enter Tryz.func56,Tryz.ntmps56
  go_upto_region 1 with fail
  exact cM
 |have HNC:=lH hnc;have hncB:nc≤9223372036854775807:=by unfold maxLen at hncm;omega
  have HNP:=lH hnp;have HNQ:=lH hnq;have hw1:h.wait.length≤1048576:=hB.2.2.2.1;have hs1:h.sent.length≤1048576:=hB.2.2.2.2;have hi1:=V.log.ints.1;have hi2:=V.log.ints.2;clear hnc hncm hnp hnq
  first
  |clear A4s
   (go_enter Tryz.func52,Tryz.ntmps52);have B2V:=trivial;exact jt
  |(go_enter Tryz.func43,Tryz.ntmps43);exact jt):p:=h
theorem TU(h:p:=by
 have FR:∀ k∈(Value.slice a8 L.length c8).ownBlock.toList,k∈(Value.slice ar nr cr).ownBlock.toList∨w7.heap.size≤k:=(fun k hk=>A5s);have HFR:=lH FR;have PE8:=PE.ex E8 (fun hm=>nE (List.mem_cons_of_mem _ (HIN.out ue hm)));have d1:=PE8.cell 1 _ rfl;have d2:=PE8.cell 2 _ rfl;have d3:=PE8.cell 3 _ rfl;have d4:=PE8.cell 4 _ rfl
 first
 |clear B0k
  have d5:=PE8.cell 5 _ rfl;clear FR f8 g8
  first
  |clear B2W
   refine sO hK fun hHeld => ?_;clear hK K;refine wpAnyH_take (i:=19) (v := .pointer (some ⟨g,0,none⟩)) rfl kR kR kR (fun _ _ _ h=>h) (Or.inl ⟨BM,?_⟩) aS ?_
   ·exact Bi
   have B2X:=trivial;exact Bh
  |have B2Y:=trivial;exact GO
 |clear FR f8 g8
  first
  |clear B2Z
   refine sO hK fun hHeld => ?_;clear hK K;exact my
  |exact gh):p:=h
theorem ku(h:p:=by
 replace hnd:=JK hnd ho3.nd (n:=X2.heap.size) (fun k hk=>by
  rcases List.mem_append.1 hk with hk | hk
  rotate_left
  ·exact (ho2.lt k hk).2
  exact (ho1.lt k hk).2) (fun k hk=>(hl k hk).1)
 replace ho1:=ho1.keep hb;replace ho2:=ho2.keep hb;have B2a:=trivial;exact KT):p:=h
theorem Tl(h:p:=by
 clear LX PX RX VLx VPx;go_wp2;refine bodyPost_ret R8 rfl ?_;exact mr):p:=h
theorem Z2(h:p:=by
 obtain ⟨a,n,c,rfl,hn,-⟩:=VS.form V;obtain ⟨b,m,c2,rfl,hm,-⟩:=VS.form U
 have hnB:n≤9223372036854775807:=by
  obtain ⟨a',n',c',e,-,-,F⟩:=V;exact Zq
 have HN:=lH hn;have HM:=lH hm;clear hn hm;by_cases hnm:n=m;rotate_left
 first
 |clear A3d
  ·have hne:Hid (xs≠ys):=fun e=>hnm Rv;(go_enter Tryz.func54,Tryz.ntmps54);exact mz
  subst hnm;go_enter Tryz.func54,Tryz.ntmps54
  exact m0
 |·have hne:Hid (xs≠ys):=fun e=>hnm Rv;(go_enter Tryz.func45,Tryz.ntmps45);exact mz
  subst hnm;go_enter Tryz.func45,Tryz.ntmps45
  exact m0):p:=h
theorem gQ(h:p:=by
 have B2b:=trivial;exact m7):p:=h
theorem m8(h:p:=by
 have e1:(x.at_ == (i:Int))=false:=by simp [hat2]
 have hgo:Hid (DG d i=Fd d i j):=by unfold Hid;rw [hrd.out,A0q ht.out hat2]
 clear hat hc hu hx ht hat2;go_wp2;go_round
 case rel=>exact ⟨j,AA,rfl,hgo⟩
 case measure=>simp only [intOf];omega):p:=h
theorem m9(h:p:=by
 have e1:(x.tw == ch)=false:=BG;have hi:Hid (((b.circles.take (k+1)).map (Bu ch)).sum=U2):=Rt;exact Oi):p:=h
theorem kW(h:p:=by
 have B3:=AD b3 B2;exact js):p:=h
theorem nA(h:p:=by
 have e1:(x.inn == ch)=false:=BG;have hi:Hid (((b.htlcs.take (k+1)).map (Bb ch)).sum=U):=Rs;exact Oi):p:=h
theorem nC(h:p:=by
 case' rest =>
  obtain ⟨wb,hwn⟩:∃ x,x=wc:=⟨_,rfl⟩
  subst hwn
  rw [← hcut] at FK Q' WX'
  clear hcut
  clear H5 Q nQ WX p3 P5
 have H5:=FK;have Q:=Q';have nQ:=nQ';have WX:=WX';clear FK Q' nQ' WX' cA zA CS;have LI:=LsIn.nil
 first
 |clear B2c
  exact nD
 |exact nF):p:=h
theorem OU(h:p:=by
 have x0g:=fun g:Grew w5=>g.cell x0;have x1g:=fun g:Grew w5=>g.cell x1;have x2g:=fun g:Grew w5=>g.cell x2;have x3g:=fun g:Grew w5=>g.cell x3;have x4g:=fun g:Grew w5=>g.cell x4;have x5g:=fun g:Grew w5=>g.cell x5;have x6g:=fun g:Grew w5=>g.cell x6
 first
 |clear B0D
  have p3g:=fun g:Grew w5=>g.cell p3;have d0g:=fun g:Grew w5=>g.cell d0;refine ET kR kR ?_
  first
  |clear A7t
   (repeat (go_big_quiet_step (first | (go_at_call 238;first | exact Calls.grew_of_same (CH _)))));exact GS
  |clear A7v
   (repeat (go_big_quiet_step (fail)));exact GS
  |clear A8O
   have B2d:=trivial;exact nG
  |clear A8Q
   have B2e:=trivial;exact nH
  |first
   |clear B2f
    have B2g:=trivial;exact nI
   |clear B2h
    have B2i:=trivial;exact nJ
   |clear B2j
    have B2k:=trivial;exact nK
   |clear A7h
    have B2l:=trivial;exact nL
   |clear A9j
    first
    |clear B2m
     have B2n:=trivial;exact nM
    |have B2o:=trivial;exact nN
   |first
    |clear B2p
     have B2q:=trivial;exact nO
    |have B2r:=trivial;exact nS
 |refine ET kR kR ?_
  first
  |clear A8f
   exact nG
  |clear A8j
   exact nH
  |first
   |clear B2s
    (repeat (go_big_quiet_step (first | (go_at_call 238;first | exact Calls.grew_of_same (CH _)))));exact GT
   |clear B2t
    exact nI
   |clear B2u
    exact nJ
   |clear B2v
    exact nK
   |clear A7x
    exact nL
   |clear A70
    (repeat (go_big_quiet_step (fail)));exact GT
   |clear B0S
    first
    |clear B2w
     exact nM
    |exact nN
   |first
    |clear B2x
     exact nO
    |exact nS):p:=h
theorem nT(h:p:=by
 have H2:=lH h2;clear h2 h3;have e0:decide ((i:Int)<0)=false:=decide_eq_false oM;have B2y:=trivial;exact TG):p:=h
theorem nU(h:p:=by
 have hl:=ho2.lt;replace ho2:=ho2.le hs;exact lA):p:=h
theorem nV(h:p:=by
 have B2z:=trivial;exact Ll):p:=h
theorem nW(h:p:=by
 obtain ⟨hTx,exx,hZ⟩:=hTx;exact nY):p:=h
theorem Zb(h:p:=by
 have W0:=V0;have W1:=V1;obtain ⟨a,len,cap,rfl,-,-,hxl,hmx,-⟩:=VN.at_ V0;obtain ⟨a',len',cap',rfl,-,-,hxl',-,-⟩:=VN.at_ V1;obtain rfl:len=len':=hxl.symm.trans hxl';have hl:len≤9223372036854775807:=Rq;clear V0 V1 hxl hxl'
 first
 |clear A2z
  go_enter Tryz.func130,Tryz.ntmps130
  have B20:=trivial;exact nZ
 |go_enter Tryz.func131,Tryz.ntmps131
  exact nZ):p:=h
theorem ng(h:p:=by
 have e8:(cd != 0)=true:=A8;exact Td):p:=h
theorem nh(h:p:=by
 subst h0;have e7:((0:Int) != 0)=false:=rfl;obtain ⟨yv,zv,lv,PV,VV,-⟩:=H5.cells;obtain ⟨ar,nr,cr,hxe,-,hnr,hncr,OR,VR,HR⟩:=H5.cn;have B21:=trivial;exact JY):p:=h
theorem gu(h:p:=by
 obtain ⟨y,z,l,P,V,-⟩:=H.cells;obtain ⟨ax,n,cx,rfl,hn,-⟩:=VS.form V.chans;have B22:=trivial;exact Tm):p:=h
theorem Te(h:p:=by
 case' rest =>
  obtain ⟨wb1,hwn⟩:∃ x,x=wc:=⟨_,rfl⟩
  subst hwn
  rw [← hcut] at FK PE' Q' WX'
  clear hcut
 exact Og):p:=h
theorem ni(h:p:=by
 have hres:Hid (Ca xs=none):=yu (by rw [HS.out];exact hok);exact nj):p:=h
theorem nk(h:p:=by
 have HE2:=lH hE2;clear hE2 g8 b8;rw [← HE2.out] at hgo;go_wp2;go_roundw
 case rel=>exact ⟨k+1,true,E2,AA,Ab,rfl,o8,Lc,fun _=>hgo.out,Nq,hB8⟩
 case measure=>simp only [intOf];omega):p:=h
theorem nm(h:p:=by
 obtain ⟨r1,hr1⟩:∃ r,r=Bd hub:=⟨_,rfl⟩;obtain ⟨r2,hr2⟩:∃ r,r=Fj dk:=⟨_,rfl⟩;simp only [← hr1] at CH;simp only [← hr2] at CN;have H1:=lH hr1;have H2:=lH hr2;clear hr1 hr2
 first
 |clear B23
  cases r1 with
  | false =>
   have B24:=trivial;exact SY
  | true =>
   cases r2 with
   | false =>
    have B25:=trivial;exact SY
   | true =>
    exact SY
 |cases r1 with
  | false =>
   have B26:=trivial;exact OH
  | true =>
   cases r2 with
   | false =>
    have B27:=trivial;exact OH
   | true =>
    exact OH):p:=h
theorem nn(h:p:=by
 have HIN:=lH hin;have hneq':¬ g=ue:=fun e=>nE EN;have hul:=PE.lt;have B28:=trivial;exact Oj):p:=h
theorem ns(h:p:=by
 have k1:(4294967296:Int)≤q:=AA;have k7:(1:Int)≤q:=AA;have k3:(4294967296:Int)≤r+d1:=AA;clear hbig hq hr b1 b2 b3 b4 hbr hd0;go_wp2;go_meet;exact ⟨cP,rfl⟩):p:=h
theorem nw(h:p:=by
 have hwlt:=hb.wallet;unfold Am at hwlt;have c5:=PE.cell 5 _ rfl;have x2:=Q.cell 2 _ rfl;obtain ⟨yp,zp,lp,PP,-,-⟩:=H5.cells;have p2:=PP.cell 2 _ rfl;have zr:=PP.fz 2 AF
 first
 |clear B29
  have hwr2:IntKind.i64.wrap (A.loc - fe)=A.loc - fe:=Ao;have hwr3:IntKind.i64.wrap (b.wallet+(A.loc - fe))=b.wallet+(A.loc - fe):=Ao;have FIN:=H5.wallet (b.wallet+(A.loc - fe)) uI;have B3A:=trivial;exact Tn
 |have hwr2:IntKind.i64.wrap (b.wallet+A.loc)=b.wallet+A.loc:=Ao;have hwr3:IntKind.i64.wrap (b.wallet+A.loc - fe)=b.wallet+A.loc - fe:=Ao;have hwr4:IntKind.i64.wrap (A.loc - fe)=A.loc - fe:=Ao;have FIN:=H5.wallet (b.wallet+A.loc - fe) uI;exact Tn):p:=h
theorem oA(h:p:=by
 have B3B:=trivial;exact Jb):p:=h
theorem oB(h:p:=by
 have B3C:=trivial;exact Jb):p:=h
theorem aZ(h:p:=by
 obtain ⟨av,nv,cv,rfl,hnv,-⟩:=VS.form VL.lines;obtain ⟨au,nu,cu,rfl,hnu,-⟩:=VS.form VP;have HNV:=lH hnv;have HNU:=lH hnu;have hli:=VL.int;unfold AE at hli hid;clear hnv hnu
 first
 |clear A4A
  go_enter Tryz.func84,Tryz.ntmps84
  have A69:=trivial;exact fu
 |go_enter Tryz.func77,Tryz.ntmps77
  exact fu):p:=h
theorem oC(h:p:=by
 intro k hk;exact Ok):p:=h
theorem oD(h:p:=by
 intro k hk;have B3D:=trivial;exact Ok):p:=h
theorem oE(h:p:=by
 have hKKH:Hid (b.htlcs.map (·.key)=KK):=A5P;have p5:=PX.cell 5 _ rfl;obtain ⟨w2,hw2⟩:∃ w2,w2=wr:=⟨_,rfl⟩;subst hw2;have ho2:=ho;have hB2:=hB;have hKl2:=hKl
 first
 |clear B3E
  clear hKK hall ho hB hBw PX hKl;go_wp2;go_loopw [4,8,69] (fun ks _ i wr=>∃ (k:Nat) (v:Value) (KK:List Int),k≤q∧i=k∧ks=v∧Ds wr w0 v KK∧Hid (b.htlcs.map (·.key) ++ (b.circles.take k).map (·.key)=KK)∧Hid ((b.circles.take k).all (D0 b.chans)=true)∧KK.length≤60+k∧Below w0 w0 wr) (fun _ _ i _=>q - (intOf i).toNat)
  case atStart=>exact ⟨0,_,KK,Nat.zero_le _,rfl,rfl,ho2,by unfold Hid;rw [hKKH.out];simp,rfl,AA,hB2⟩
  case round =>
   obtain ⟨k,v,KK,hk,rfl,rfl,ho,hKK,hall,hKl,hB⟩:=hrel;have B3F:=trivial;exact Ol
 |clear hKK ho hB hBw PX hKl p4;go_wp2;go_loopw [3,7,25] (fun ks _ i wr=>∃ (k:Nat) (v:Value) (KK:List Int),k≤q∧i=k∧ks=v∧Ds wr w0 v KK∧Hid (b.htlcs.map (·.key) ++ (b.circles.take k).map (·.key)=KK)∧KK.length≤60+k∧Below w0 w0 wr) (fun _ _ i _=>q - (intOf i).toNat)
  case atStart=>exact ⟨0,_,KK,Nat.zero_le _,rfl,rfl,ho2,by unfold Hid;rw [hKKH.out];simp,AA,hB2⟩
  case round =>
   obtain ⟨k,v,KK,hk,rfl,rfl,ho,hKK,hKl,hB⟩:=hrel;exact Ol):p:=h
theorem Sn(h:p:=by
 have H0:=H5;clear H5;obtain ⟨rfl,H5,W2⟩:=hcut;exact Ij):p:=h
theorem Ze(h:p:=by
 rcases List.mem_append.1 hk with hk | hk
 rotate_left
 ·exact h2.lt k hk
 rcases List.mem_append.1 hk with hk | hk
 rotate_left
 ·exact h1.lt k hk
 exact h0.lt k hk):p:=h
theorem ir(h:p:=by
 go_wp2_with fail
 exact Om):p:=h
theorem oF(h:p:=by
 refine tK 24 ?_;refine tK 25 ?_;refine tK 26 ?_;refine tK 27 ?_;refine tK 28 ?_;refine tK 29 ?_;refine tK 30 ?_
 first
 |clear B3G
  first
  |clear B3H
   exact S6
  |clear B3I
   exact gR
  |clear B3J
   exact gR
  |clear B3K
   exact S6
  |exact S6
 |refine tK 31 ?_;refine tK 32 ?_;refine tK 33 ?_;refine tK 34 ?_
  first
  |clear B3L
   refine tK 35 ?_;refine tK 36 ?_;refine tK 37 ?_;refine tK 42 ?_;refine tK 43 ?_;refine tH 38 fun K hK => ?_;go_simp;(go_at_call 138);refine (CB _ (V0.keep Bc1)).mono ?_;have B3M:=trivial;exact oG
  |refine tH 35 fun K hK => ?_;go_simp;go_at_call 149
   first
   |clear B3N
    refine (Dr g 4 _ Zc1).mono ?_;rintro e w2 ⟨rfl,rfl⟩;have B3O:=trivial;exact mY
   |refine (Du g 4 _ Zc1 Fc1 dC).mono ?_;rintro e w2 ⟨rfl,hw2⟩;have FC:=Hc1.setCode 4;have PS:=Pc1.set1 7 (.int .i64 4) AF;have QS0:=Ec10.otherC g 7 (.int .i64 4) hneq;have B3P:=trivial;exact OO):p:=h
theorem oH(h:p:=by
 have B3Q:=trivial;exact KV):p:=h
theorem kJ(h:p:=by
 refine tN 15 ?_;refine tN 16 ?_;refine tN 17 ?_;refine tN 18 ?_;refine tN 19 ?_;refine tN 20 ?_;refine tN 21 ?_
 first
 |clear B3R
  exact To
 |refine tN 22 ?_
  first
  |clear B1q
   have B3S:=trivial;exact ib
  |refine tN 23 ?_;exact kh):p:=h
theorem Io(h:p:=by
 have B3T:=trivial;exact Tn):p:=h
theorem KW(h:p:=by
 go_simp;refine hK.out _ _ (Or.inl rfl) (fun hHeld => ?_);clear hK K;have B3U:=trivial;exact Bh):p:=h
theorem oI(h:p:=by
 obtain ⟨g,off,x,rfl,hg,-,⟨c0,c1,c2,c3,c4,c5,c6⟩,hx,htx⟩:=DC.at_ (VX.keep hB1).htlcs hlt;obtain ⟨g',off',y,rfl,hg',-,⟨d0,d1,d2,d3,d4,d5,d6⟩,hy,hty⟩:=DC.at_ (UX.keep hB1).htlcs hlt;by_cases hxy:x=y
 ·exact B0u
 have hne:Hid (hs1≠hs2):=fun e=>by
  exact Tp
 clear hx hy htx hty
 first
 |clear B3V
  have hno:Hid (¬ P):=by
   have B3W:=trivial;exact Gx
  exact fq
 |have hno:Hid (¬ P):=by
   have B3X:=trivial;exact Gv
  exact fq):p:=h
theorem oJ(h:p:=by
 obtain ⟨g,off,x,rfl,hg,-,⟨c0,c1,c2,c3,c4⟩,hx,htx⟩:=DA.at_ (VX.keep hB2).circles hlt;obtain ⟨g',off',y,rfl,hg',-,⟨d0,d1,d2,d3,d4⟩,hy,hty⟩:=DA.at_ (UX.keep hB2).circles hlt;by_cases hxy:x=y
 ·exact B0v
 have hne:Hid (zs1≠zs2):=fun e=>by
  exact Tp
 clear hx hy htx hty
 first
 |clear B3Y
  have hno:Hid (¬ P):=by
   exact Gx
  exact gm
 |have hno:Hid (¬ P):=by
   exact Gv
  exact gm):p:=h
theorem oK(h:p:=by
 obtain ⟨g,off,x,rfl,hg,-,⟨c0,c1,c2,c3,c4,c5,c6⟩,hx,htx⟩:=Bz.at_ (VX.keep hB0).chans hlt;obtain ⟨g',off',y,rfl,hg',-,⟨d0,d1,d2,d3,d4,d5,d6⟩,hy,hty⟩:=Bz.at_ (UX.keep hB0).chans hlt;by_cases hxy:x=y
 ·exact B0x
 have hne:Hid (cs1≠cs2):=fun e=>by
  exact Tp
 clear hx hy htx hty
 first
 |clear B3Z
  have hno:Hid (¬ P):=by
   have B3a:=trivial;exact Gx
  exact fr
 |have hno:Hid (¬ P):=by
   have B3b:=trivial;exact Gv
  exact fr):p:=h
theorem OY(h:p:=by
 rw [hw2] at FC;clear hw2;go_wp2_with fail
 try go_wp2_with fail
 go_meet
 case rel=>exact ⟨Fr,A6E⟩):p:=h
theorem OP(h:p:=by
 go_upto_region 1 with fail
 refine cJ fun w0 L0 b0 hz => ?_;refine cW fun w1 A0 b1 => ?_;have LX:=L0.keep b1;have B1:=AD b1 b0;rw [hz] at A0
 first
 |clear A7U
  have VX:=VX.keep B1;have UX:=UX.keep B1;clear L0 b0 b1 hz;obtain ⟨l0,l1⟩:=LX.c2;obtain ⟨a0,a1⟩:=A0.c2;by_cases hpq:pl=ql;rotate_left
  ·(have e1:(pl != ql)=true:=by simp [hpq]);have hno:=lH hpq;go_wp2;go_ret;exact ⟨⟨_,rfl,KH⟩,B1⟩
  by_cases hnm:n=m;rotate_left
  ·have hno:Hid (¬ (xs=ys)):=fun e=>hnm Rv;have e2:((n:Int) != (m:Int))=true:=An;(have e1:(pl != ql)=false:=by simp [hpq]);go_wp2;go_ret;exact ⟨⟨_,rfl,KH⟩,B1⟩
  subst hnm;subst hpq;have e1:(pl != pl)=false:=AP;have e2:((n:Int) != (n:Int))=false:=AP;go_wp2;go_loopw [5,23] (fun _ i wr=>∃ k:Nat,k≤n∧i=k∧Hid (xs.take k=ys.take k)∧Below w1 w1 wr) (fun _ i _=>n - (intOf i).toNat)
  case atStart=>exact ⟨0,Nat.zero_le _,rfl,rfl,Below.refl _ _⟩
  case round =>
   exact A65
 |have VX:=V.keep B1;have UX:=U.keep B1;clear L0 b0 b1 hz;have AX:=A0;clear A0
  first
  |clear A71
   have l0:=LX.cell 0 _ rfl;have a0:=AX.cell 0 _ rfl;have l1:=LX.cell 1 _ rfl;have a1:=AX.cell 1 _ rfl;have l2:=LX.cell 2 _ rfl;have a2:=AX.cell 2 _ rfl;have l3:=LX.cell 3 _ rfl;have a3:=AX.cell 3 _ rfl;have l4:=LX.cell 4 _ rfl;have a4:=AX.cell 4 _ rfl;have l5:=LX.cell 5 _ rfl;have a5:=AX.cell 5 _ rfl;by_cases hd:t1=t2;rotate_left
   ·have et:(t1 != t2)=true:=by simp [hd]
    have hno:Hid (¬ P):=by
     have B3c:=trivial;exact Gx
    exact Dx
   subst hd;have et:(t1 != t1)=false:=AP;by_cases hd:u1=u2;rotate_left
   ·have eu:(u1 != u2)=true:=by simp [hd]
    have hno:Hid (¬ P):=by
     have B3d:=trivial;exact Gx
    exact Dx
   subst hd;have eu:(u1 != u1)=false:=AP;by_cases hd:v1=v2;rotate_left
   ·have ev:(v1 != v2)=true:=by simp [hd]
    have hno:Hid (¬ P):=by
     have B3e:=trivial;exact Gx
    exact Dx
   subst hd;have ev:(v1 != v1)=false:=AP;by_cases hd:n1=n2;rotate_left
   ·have en:((n1:Int) != (n2:Int))=true:=An
    have hno:Hid (¬ P):=by
     have B3f:=trivial;exact Gx
    exact Dx
   subst hd;have en:((n1:Int) != (n1:Int))=false:=AP;by_cases hd:m1=m2;rotate_left
   ·have em:((m1:Int) != (m2:Int))=true:=An
    have hno:Hid (¬ P):=by
     have B3g:=trivial;exact Gx
    exact Dx
   subst hd;have em:((m1:Int) != (m1:Int))=false:=AP;by_cases hd:q1=q2;rotate_left
   ·have eq:((q1:Int) != (q2:Int))=true:=An
    have hno:Hid (¬ P):=by
     have B3h:=trivial;exact Gx
    exact Dx
   subst hd;have eq:((q1:Int) != (q1:Int))=false:=AP;go_wp2;go_loopw [5,57] (fun _ i wr=>∃ k:Nat,k≤n1∧i=k∧Hid (cs1.take k=cs2.take k)∧Below w1 w1 wr) (fun _ i _=>n1 - (intOf i).toNat)
   case atStart=>exact ⟨0,Nat.zero_le _,rfl,rfl,Below.refl _ _⟩
   case round =>
    obtain ⟨k,hk,rfl,htk,hB0⟩:=hrel;have hBw:=AD hB0 B1;have B3i:=trivial;exact jl
  |obtain ⟨l0,l1,l2,l3,l4,l5⟩:=LX.c6;go_wp2_with fail
   first
   |clear A72
    refine (NH _ _ _ (⟨t1,u1,v1,cs1,hs1,zs1⟩:Bk) w1 VX).mono ?_;have A88:=trivial;exact jm
   |refine (Mx _ _ _ (⟨t1,u1,v1,cs1,hs1,zs1⟩:Bk) w1 VX).mono ?_;exact jm):p:=h
theorem eo(h:p:=by
 go_wp2_with (at_builtin;refine Df LC Tryz.underlying39 rfl dC dC (fun _=>rfl) Md rfl _ _ rfl (ob+1) _ cs rfl (AC.alloc csn _) _ cd rfl (BC _ _ _ rfl) oM (Nat.le_trans hzo (Aj _ _)) ?_)
 intro vcX wX CX bX gX;have bA:=bA w8 [cd] 3;have csA:=AC.alloc csn (.cells #[cd] 3);replace Q8:=(Q8.keep bA).keepL bX (Nat.lt_succ_self ob);replace Oo:=(Oo.keep bA).grown csA gX dC dC dC
 first
 |clear B3j
  replace psn:=ON.grownE (psn.keep bA) csA gX dC dC;have B3k:=trivial;exact S7
 |replace On:=(On.keep bA).grown csA gX dC dC dC;replace Nn:=RwO.grownE (Nn.keep bA) csA gX dC;replace psn:=ON.grownE (psn.keep bA) csA gX dC dC;replace P12:=(P12.keep bA).grownE csA gX hc12;replace P13:=(P13.keep bA).grownE csA gX hc13;exact S7):p:=h
theorem Om(h:p:=by
 refine sO hK fun hHeld => ?_;clear hK K;have B3l:=trivial;exact KX):p:=h
theorem oL(h:p:=by
 obtain ⟨yq,zq,lq,PQ,VQ,-⟩:=H5.cells;have pq:=PQ.cell 7 _ rfl;have B3m:=trivial;exact Tq):p:=h
theorem oN(h:p:=by
 have hcmp:(S1.toList == S2.toList)=true:=dP;have h22:xs.length=22:=by rw [← heq];exact hSl
 have hres:Hid (DP xs=some ⟨kd,ky,ch,tt,am,fe,ys⟩):=by
  unfold Hid;have h1:=A13 h22 (by rw [(HE h22).out];exact HOK.out) dW;rw [(HE h22).out] at h1;exact h1
 have HE:=lH HE;clear P1 Q1 P3 Q3 V1 V3 O3 hSB hSl hS1 hS2 heq F b3 h22;go_wp2
 first
 |clear B3n
  refine bodyPost_ret dV rfl ?_;exact ⟨.inl ⟨_,hres.out,rfl⟩,bW⟩
 |refine bodyPost_ret dX rfl ?_;exact ⟨.inl ⟨_,hres.out,rfl⟩,bW⟩):p:=h
end
end Go.Proofs.YtahefgkdbecemaaGreat
