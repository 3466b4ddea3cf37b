/- The walks and the laws they lean on. -/
import Derived.Test.YtahefgkdbecemaaGreatQw3
namespace Go.Proofs.YtahefgkdbecemaaGreat
open Go.RowKit
set_option linter.unusedVariables false
set_option linter.unusedSimpArgs false
set_option maxRecDepth 100000
set_option maxHeartbeats 12800000
section
section
variable {P:Program} {ops:Array Oper} {Q:Exit→Act→World→Prop} {md:Region.Mode} {S:World→Prop} {last:Nat}
def J1 (md:Region.Mode) (ops:Array Oper) (listed:Array Bool):Prop:=∀ (j:Nat) (o:Oper),ops[j]? = some o→listed.getD j false=true→∀ e∈o.after,Region.binds md e=true→listed.getD e.on false=true
def J5 (md:Region.Mode) (ops:Array Oper) (listed:Array Bool):Bool:=(List.range ops.size).all fun j=>match ops[j]? with
 | some o => !listed.getD j false || o.after.all (fun e => !Region.binds md e || listed.getD e.on false)
 | none=>true
theorem vD {listed:Array Bool} (h:J5 md ops listed=true):J1 md ops listed:=fun j o ho hl e he hb=>by
 unfold J5 at h;rw [List.all_eq_true] at h;have h1:=h j (List.mem_range.2 (Array.getElem?_eq_some_iff.1 ho).1);simp only [ho,hl,Bool.not_true,Bool.false_or] at h1;have h2:=Array.all_eq_true_iff_forall_mem.1 h1 e he;rw [hb] at h2;simpa using h2
def GD (md:Region.Mode) (ops:Array Oper):Nat→Nat→Nat→Bool
 | 0,j,i=>j == i
 | f+1,j,i=>j == i || match ops[j]? with
  | some o=>o.after.any (fun e=>Region.binds md e && GD md ops f e.on i)
  | none=>false
theorem X7 {listed:Array Bool} (hc:J1 md ops listed):∀ (f j i:Nat),GD md ops f j i=true→listed.getD j false=true→listed.getD i false=true
 | 0,j,i,h,hj=>by
  rw [← beq_iff_eq.1 (show (j == i)=true from h)];exact hj
 | f+1,j,i,h,hj=>by
  unfold GD at h;rw [Bool.or_eq_true] at h;rcases h with h | h
  ·rw [← beq_iff_eq.1 h];exact hj
  cases ho:ops[j]? with
  | none=>simp only [ho] at h;cases h
  | some o =>
   simp only [ho] at h;obtain ⟨e,he,h2⟩:=Array.any_eq_true'.1 h;rw [Bool.and_eq_true] at h2;exact X7 hc f e.on i h2.2 (hc j o ho hj e he h2.1)
theorem Vd {l:Array Bool} {i:Nat} (h:l.getD i true=false):l.getD i false=false:=by
 rcases Nat.lt_or_ge i l.size with h' | h'
 ·simp [h'] at h ⊢;exact h
 simp [Array.getElem?_eq_none h'] at h
theorem A1t {listed:Array Bool} {i f:Nat} (hc:J1 md ops listed) (hi:i∈Region.ready md ops listed) (hr:GD md ops f last i=true) (hne:i≠last):last∉Region.ready md ops listed:=fun hl=>by
 have hun:=Vd (mem_ready.1 hi).1;obtain ⟨-,o,ho,hall⟩:=mem_ready.1 hl
 cases f with
 | zero=>exact hne (beq_iff_eq.1 (show (last == i)=true from hr)).symm
 | succ f =>
  unfold GD at hr;rw [Bool.or_eq_true] at hr;rcases hr with h | h
  ·exact hne (beq_iff_eq.1 h).symm
  simp only [ho] at h;obtain ⟨e,he,h2⟩:=Array.any_eq_true'.1 h;rw [Bool.and_eq_true] at h2;have:=X7 hc f e.on i h2.2 (hall e he h2.1)
  rw [hun] at this;cases this
theorem wk {listed:Array Bool} {j:Nat} (hc:J1 md ops listed) (hj:j∈Region.ready md ops listed):J1 md ops (listed.setIfInBounds j true):=fun k o ho hl e he hb=>by
 obtain ⟨-,oj,hoj,hall⟩:=mem_ready.1 hj;by_cases hk:j=k
 ·subst hk;rw [hoj] at ho;obtain rfl:=Option.some.inj ho;exact getD_set_true (hall e he hb)
 rw [getD_set_ne false hk] at hl;exact getD_set_true (hc k o ho hl e he hb)
def Cu (P:Program) (md:Region.Mode) (ops:Array Oper) (Q:Exit→Act→World→Prop) (S:World→Prop) (last:Nat):Nat→Array Bool→Act→World→Prop
 | 0,listed,a,w=>Region.ready md ops listed = []∧Q .normal a w
 | fuel+1,listed,a,w =>
  (Region.ready md ops listed = []→Q .normal a w) ∧
  ∀ i∈Region.ready md ops listed,wpOp P ops Q i (fun a' w'=>(i=last∨S w')∧Cu P md ops Q S last fuel (listed.setIfInBounds i true) a' w') a w
theorem Vg:∀ (fuel:Nat) (listed:Array Bool) (a:Act) (w:World),Cu P md ops Q S last fuel listed a w→wpAny P md ops Q fuel listed a w
 | 0,_,_,_,h=>h
 | fuel+1,_,_,_,h=>⟨h.1,fun i hi=>wpOp_mono (fun a' w' h'=>Vg fuel _ a' w' h'.2) (h.2 i hi)⟩
theorem wd {i f:Nat} {oi:Oper} {v:Value} (hi:ops[i]? = some oi) (hsel:∀ (j:Nat) (o:Oper) cs b,ops[j]? = some o→o.op ≠ .select cs b)
 (hQ:∀ c a w,Q (.panic c) (a.put oi.dst v) w→Q (.panic c) a w) (hne:i≠last) (hrc:GD md ops f last i=true) :
 ∀ (fuel:Nat) (listed:Array Bool) (a:Act) (w:World),
  (∀ j oj,ops[j]? = some oj→j≠i→listed.getD j true=false→(∀ e∈oj.after,Region.binds md e=true→e.on≠i)→oi.apart ops oj=true) →
  i∈Region.ready md ops listed→YieldsIf P ops S oi v a→S w→J1 md ops listed →
  Cu P md ops Q S last fuel (listed.setIfInBounds i true) (a.put oi.dst v) w→Cu P md ops Q S last (fuel+1) listed a w:=by
 intro fuel
 induction fuel with
 | zero =>
  intro listed a w _ hr hy hS hc H;refine ⟨fun h=>(by rw [h] at hr;cases hr),fun j hj => ?_⟩;by_cases hji:j=i
  ·subst hji;exact hy.wpOp hi hS ⟨Or.inr hS,H⟩
  have:=ready_mono hj hji
  rw [H.1] at this;cases this
 | succ fuel ih =>
  intro listed a w hfree hr hy hS hc H;refine ⟨fun h=>(by rw [h] at hr;cases hr),fun j hj => ?_⟩;by_cases hji:j=i
  ·subst hji;exact hy.wpOp hi hS ⟨Or.inr hS,H⟩
  have hjl:j≠last:=fun e=>A1t hc hr hrc hne (e ▸ hj);have h1:=H.2 j (ready_mono hj hji);obtain ⟨hjun,oj,hoj,hall⟩:=mem_ready.1 hj
  have hnot:∀ e∈oj.after,Region.binds md e=true→e.on≠i:=fun e he hb heq=>by
   have h1:=hall e he hb;have h0:=(mem_ready.1 hr).1;rw [heq] at h1;rw [Vd h0] at h1;cases h1
  have h2:=wpOp_putIf hoj (hfree j oj hoj hji hjun hnot) (fun cs b=>hsel i oi cs b hi) (fun cs b=>hsel j oj cs b hoj) hQ hy h1
  have hfree':∀ k ok,ops[k]? = some ok→k≠i→(listed.setIfInBounds j true).getD k true=false →
   (∀ e∈ok.after,Region.binds md e=true→e.on≠i)→oi.apart ops ok=true:=fun k ok hk hki hun hno=>by
   refine hfree k ok hk hki ?_ hno
   by_cases hjk:j=k
   ·subst hjk;exact hjun
   rw [getD_set_ne true hjk] at hun;exact hun
  refine wpOp_mono (fun a' w' h3=>⟨h3.2.1,ih (listed.setIfInBounds j true) a' w' hfree' (ready_mono hr (Ne.symm hji)) h3.1 (h3.2.1.resolve_left hjl) (wk hc hj) ?_⟩) h2;rw [Array.setIfInBounds_comm _ _ hji];exact h3.2.2
theorem A0x {i:Nat} {oi:Oper} {v:Value} {fuel:Nat} {listed:Array Bool} {a:Act} {w:World} (hi:ops[i]? = some oi)
 (hs:Region.noSelect ops=true) (hf:Region.free md ops listed i=true) (hr:(Region.ready md ops listed).contains i=true) (hl:(GD md ops ops.size last i && J5 md ops listed && !(i == last))=true)
 (hQ:∀ c a w,Q (.panic c) (a.put oi.dst v) w→Q (.panic c) a w) (hy:YieldsIf P ops S oi v a) (hS:S w)
 (h:Cu P md ops Q S last fuel (listed.setIfInBounds i true) (a.put oi.dst v) w):Cu P md ops Q S last (fuel+1) listed a w:=by
 rw [Bool.and_eq_true,Bool.and_eq_true] at hl
 exact wd hi (Region.noSelect_spec hs) hQ (fun e=>by rw [e] at hl;simp at hl) hl.1.1 fuel listed a w (Region.free_spec hi hf) Qt hy hS (vD hl.1.2) h
theorem uy {listed:Array Bool} {a:Act} {w:World} (hr:Region.ready md ops listed = []) (h:Q .normal a w):∀ fuel,Cu P md ops Q S last fuel listed a w
 | 0=>⟨hr,h⟩
 | _+1=>⟨fun _=>h,by rw [hr];simp⟩
def Em (P:Program) (md:Region.Mode) (ops:Array Oper) (Q:Exit→Act→World→Prop) (S:World→Prop) (last:Nat) (fuel:Nat) (listed:Array Bool) (a:Act) (w:World) (rs:List Nat):Prop :=
 ∀ i∈rs,wpOp P ops Q i (fun a' w'=>(i=last∨S w')∧Cu P md ops Q S last fuel (listed.setIfInBounds i true) a' w') a w
theorem Em.nil {fuel:Nat} {listed:Array Bool} {a:Act} {w:World}:Em P md ops Q S last fuel listed a w []:=fun _ h=>by cases h
theorem Em.cons {fuel:Nat} {listed:Array Bool} {a:Act} {w:World} {i:Nat} {o:Oper} {rs:List Nat} (ho:ops[i]? = some o)
 (h:∀ K':Act→World→Prop,Shut (∀ a w,(i=last∨S w)→((i=last∨S w)→Cu P md ops Q S last fuel (listed.setIfInBounds i true) a w)→K' a w)→if Region.wanted o (yielded ops a.tmps)=true then Oper.wp P o a w K' Q else K' (a.put o.dst undef) w)
 (hs:Em P md ops Q S last fuel listed a w rs):Em P md ops Q S last fuel listed a w (i :: rs):=fun j hj=>by
 rcases List.mem_cons.1 hj with rfl | hj
 ·exact wpOp_step ho (fun K' hK=>h K' (fun a w hS hW=>hK a w ⟨hS,hW hS⟩))
 exact hs j hj
theorem QF {rs:List Nat} {fuel:Nat} {listed:Array Bool} {a:Act} {w:World} (hr:Region.ready md ops listed=rs) (hne:rs ≠ [])
 (h:Em P md ops Q S last fuel listed a w rs):Cu P md ops Q S last (fuel+1) listed a w:=⟨fun h0=>absurd (hr ▸ h0) hne,hr ▸ h⟩
theorem II {id:Nat} {a:Act} {w:World} (hm:P.follows .mixedOrders=true) (hS:S w.drew)
 (h:S w.drew→Cu P .any ops Q S last ops.size (Array.replicate ops.size false) a w.drew):(Code.region id ops true).wp P Q a w :=
 wp_region_any hm (Vg _ _ _ _ (h hS))
end
section
variable {P:Program} {l:List Oper} {Q:Exit→Act→World→Prop} {md:Region.Mode} {S:World→Prop} {last:Nat}
theorem U4 {i:Nat} {oi:Oper} {v:Value} {fuel:Nat} {listed:Array Bool} {a:Act} {w:World} (hi:l[i]? = some oi)
 (hs:Region.noSelect l.toArray=true) (hf:Region.free md l.toArray listed i=true) (hr:(Region.ready md l.toArray listed).contains i=true)
 (hQ:∀ c a w,Q (.panic c) (a.put oi.dst v) w→Q (.panic c) a w) (hy:YieldsIf P l.toArray S oi v a) (hS:S w)
 (h:wpAnyH P md l.toArray Q S fuel (listed.setIfInBounds i true) (a.put oi.dst v) w):wpAnyH P md l.toArray Q S (fuel+1) listed a w :=
 wpAnyH_take (by simpa using hi) hs hf hr hQ hy hS h
theorem Wc {i:Nat} {oi:Oper} {v:Value} {fuel:Nat} {listed:Array Bool} {a:Act} {w:World} (hi:l[i]? = some oi)
 (hs:Region.noSelect l.toArray=true) (hf:Region.free md l.toArray listed i=true) (hr:(Region.ready md l.toArray listed).contains i=true) (hl:(GD md l.toArray l.toArray.size last i && J5 md l.toArray listed && !(i == last))=true)
 (hQ:∀ c a w,Q (.panic c) (a.put oi.dst v) w→Q (.panic c) a w) (hy:YieldsIf P l.toArray S oi v a) (hS:S w)
 (h:Cu P md l.toArray Q S last fuel (listed.setIfInBounds i true) (a.put oi.dst v) w):Cu P md l.toArray Q S last (fuel+1) listed a w :=
 A0x (by simpa using hi) hs hf hr hl hQ hy hS h
theorem yf {fuel:Nat} {listed:Array Bool} {a:Act} {w:World} {i:Nat} {o:Oper} {rs:List Nat} (ho:l[i]? = some o)
 (h:∀ K':Act→World→Prop,Shut (∀ a w,S w→(S w→wpAnyH P md l.toArray Q S fuel (listed.setIfInBounds i true) a w)→K' a w)→if Region.wanted o (yielded l.toArray a.tmps)=true then Oper.wp P o a w K' Q else K' (a.put o.dst undef) w)
 (hs:AllReadyH P md l.toArray Q S fuel listed a w rs):AllReadyH P md l.toArray Q S fuel listed a w (i :: rs):=AllReadyH.cons (by simpa using ho) h hs
theorem LN {fuel:Nat} {listed:Array Bool} {a:Act} {w:World} {i:Nat} {o:Oper} {rs:List Nat} (ho:l[i]? = some o)
 (h:∀ K':Act→World→Prop,Shut (∀ a w,(i=last∨S w)→((i=last∨S w)→Cu P md l.toArray Q S last fuel (listed.setIfInBounds i true) a w)→K' a w)→if Region.wanted o (yielded l.toArray a.tmps)=true then Oper.wp P o a w K' Q else K' (a.put o.dst undef) w)
 (hs:Em P md l.toArray Q S last fuel listed a w rs):Em P md l.toArray Q S last fuel listed a w (i :: rs):=Em.cons (by simpa using ho) h hs
end
end
end Go.Proofs.YtahefgkdbecemaaGreat
