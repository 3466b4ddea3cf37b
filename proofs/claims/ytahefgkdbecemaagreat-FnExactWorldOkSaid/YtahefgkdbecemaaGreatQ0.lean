/- The walks and the laws they lean on. -/
import Derived.Test.YtahefgkdbecemaaGreatProg
import GoSem.Claim
import GoSem.ClaimJoined
import GoSem.ClaimMapViews
import Derived.JoinedTies
import Derived.KernelRfl
import Derived.WalkKit
import Derived.WalkSpells
import Derived.WalkLawsBesides
import Derived.IntWalk
import Derived.BigQuiet
import Derived.Deep.QuietTactic
import Derived.Lib.Hide
namespace Go.Proofs.YtahefgkdbecemaaGreat
open Go.RowKit
set_option linter.unusedVariables false
set_option linter.unusedSimpArgs false
set_option maxRecDepth 100000
set_option maxHeartbeats 12800000
section
theorem CD {k:IntKind} {a b:Int} (h:a=b):Ending.returned (.int k a) = .returned (.int k b):=by rw [h]
theorem Fu {k:IntKind} {a b:Int} (h:a=b):Value.int k a = .int k b:=by rw [h]
theorem Ag {a b:Bool} (h:a=b):Ending.returned (.bool a) = .returned (.bool b):=by rw [h]
theorem tt {P:Prop} [Decidable P] (h:P):true=decide P:=(decide_eq_true h).symm
theorem ff {P:Prop} [Decidable P] (h:¬P):false=decide P:=(decide_eq_false h).symm
theorem dd {P Q:Prop} [Decidable P] [Decidable Q] (h:P↔Q):decide P=decide Q:=decide_eq_decide.2 h
theorem ta (b:UInt8):0≤(b.toNat:Int)∧(b.toNat:Int)≤255:=by have:=b.toNat_lt;omega
theorem AJ {n:Int} (h:(Lit.int .i64 n).wf=true) : -9223372036854775808≤n∧n≤9223372036854775807:=by
 simp only [Lit.wf,Bool.and_eq_true,decide_eq_true_eq] at h
 have h1:IntKind.i64.min = -9223372036854775808:=rfl
 have h2:IntKind.i64.max=9223372036854775807:=rfl
 omega
def IS (w:World) (B:Nat) (a:Option Addr) (len:Nat) (xs:List Int):Prop :=
 xs.length=len∧len≤maxLen∧(∀ n∈xs,-9223372036854775808≤n∧n≤9223372036854775807) ∧
 ∀ (i:Nat) (x:Int),xs[i]? = some x→∃ b off,a=some ⟨b,off,none⟩∧b<B∧w.cell? ⟨b,off+i,none⟩=some (.int .i64 x)
theorem IS.keepB {w w':World} {B B':Nat} {a:Option Addr} {len:Nat} {xs:List Int} (h:IS w B a len xs) (hb:Below B' w w') (hB:B≤B'):IS w' B a len xs :=
 ⟨h.1,h.2.1,h.2.2.1,fun i x hx=>by
  obtain ⟨b,off,e,hlt,hc⟩:=h.2.2.2 i x hx
  exact ⟨b,off,e,hlt,(hb.cell (p:=⟨b,off+i,none⟩) (Nat.lt_of_lt_of_le hlt hB)).trans hc⟩⟩
theorem IS.mono {w:World} {B B':Nat} {a:Option Addr} {len:Nat} {xs:List Int} (h:IS w B a len xs) (hB:B≤B'):IS w B' a len xs :=
 ⟨h.1,h.2.1,h.2.2.1,fun i x hx=>by
  obtain ⟨b,off,e,hlt,hc⟩:=h.2.2.2 i x hx
  exact ⟨b,off,e,Nat.lt_of_lt_of_le hlt hB,hc⟩⟩
theorem IS.keep {w w':World} {a:Option Addr} {len:Nat} {xs:List Int} (h:IS w w.heap.size a len xs) (hb:Below w.heap.size w w'):IS w' w'.heap.size a len xs :=
 (h.keepB hb (Nat.le_refl _)).mono hb.size
theorem IS.at_ {w:World} {B:Nat} {a:Option Addr} {len:Nat} {xs:List Int} (h:IS w B a len xs) {k:Nat} (hk:k<len) :
 ∃ b off x,a=some ⟨b,off,none⟩∧b<B∧w.cell? ⟨b,off+k,none⟩=some (.int .i64 x)∧(-9223372036854775808≤x∧x≤9223372036854775807)∧Hid (xs[k]? = some x)∧Hid (xs.take (k+1)=xs.take k ++ [x]):=by
 have hl:k<xs.length:=by have:=h.1;omega
 obtain ⟨b,off,e,hlt,hc⟩:=h.2.2.2 k _ (List.getElem?_eq_getElem hl)
 exact ⟨b,off,_,e,hlt,hc,h.2.2.1 _ (List.getElem_mem hl),List.getElem?_eq_getElem hl,List.take_succ_eq_append_getElem hl⟩
theorem IS.all {w:World} {B:Nat} {a:Option Addr} {len:Nat} {xs:List Int} (h:IS w B a len xs) {k:Nat} (hk:len≤k):xs.take k=xs :=
 List.take_of_length_le (by have:=h.1;omega)
theorem IS.len {w:World} {B:Nat} {a:Option Addr} {len:Nat} {xs:List Int} (h:IS w B a len xs):len≤9223372036854775807:=by have:=h.2.1;unfold maxLen at this;omega
def FS {α:Type} (enc:α→List Value) (sz:Nat) (ok:α→Prop) (w:World) (B:Nat) (a:Option Addr) (len:Nat) (xs:List α):Prop :=
 xs.length=len∧len≤maxLen∧(∀ x∈xs,ok x) ∧
 ∀ (i:Nat) (x:α),xs[i]? = some x→∃ b off,a=some ⟨b,off,none⟩∧b<B∧∀ (j:Nat) (v:Value),(enc x)[j]? = some v→w.cell? ⟨b,off+i*sz+j,none⟩=some v
section
variable {α:Type} {enc:α→List Value} {sz:Nat} {ok:α→Prop} {w w':World} {B B':Nat} {a:Option Addr} {len:Nat} {xs:List α}
theorem FS.keepB (h:FS enc sz ok w B a len xs) (hb:Below B' w w') (hB:B≤B'):FS enc sz ok w' B a len xs :=
 ⟨h.1,h.2.1,h.2.2.1,fun i x hx=>by
  obtain ⟨b,off,e,hlt,hc⟩:=h.2.2.2 i x hx
  exact ⟨b,off,e,hlt,fun j v hv=>(hb.cell (p:=⟨b,off+i*sz+j,none⟩) (Nat.lt_of_lt_of_le hlt hB)).trans (hc j v hv)⟩⟩
theorem FS.mono (h:FS enc sz ok w B a len xs) (hB:B≤B'):FS enc sz ok w B' a len xs :=
 ⟨h.1,h.2.1,h.2.2.1,fun i x hx=>by
  obtain ⟨b,off,e,hlt,hc⟩:=h.2.2.2 i x hx
  exact ⟨b,off,e,Nat.lt_of_lt_of_le hlt hB,hc⟩⟩
theorem FS.keep (h:FS enc sz ok w w.heap.size a len xs) (hb:Below w.heap.size w w'):FS enc sz ok w' w'.heap.size a len xs :=
 (h.keepB hb (Nat.le_refl _)).mono hb.size
theorem FS.at_ (h:FS enc sz ok w B a len xs) {k:Nat} (hk:k<len) :
 ∃ b off x,a=some ⟨b,off,none⟩∧b<B∧(∀ (j:Nat) (v:Value),(enc x)[j]? = some v→w.cell? ⟨b,off+k*sz+j,none⟩=some v)∧ok x∧Hid (xs[k]? = some x)∧Hid (xs.take (k+1)=xs.take k ++ [x]):=by
 have hl:k<xs.length:=by have:=h.1;omega
 obtain ⟨b,off,e,hlt,hc⟩:=h.2.2.2 k _ (List.getElem?_eq_getElem hl)
 exact ⟨b,off,_,e,hlt,hc,h.2.2.1 _ (List.getElem_mem hl),List.getElem?_eq_getElem hl,List.take_succ_eq_append_getElem hl⟩
theorem FS.all (h:FS enc sz ok w B a len xs) {k:Nat} (hk:len≤k):xs.take k=xs:=List.take_of_length_le (by have:=h.1;omega)
theorem FS.lenB (h:FS enc sz ok w B a len xs):len≤9223372036854775807:=by have:=h.2.1;unfold maxLen at this;omega
theorem FS.nil (w:World) (B:Nat) (a:Option Addr):FS enc sz ok w B a 0 []:=⟨rfl,by simp [maxLen],by simp,fun i x h=>by simp at h⟩
end
@[go_sem] theorem cell?_setCell_map (w:World) (a:Addr) (v:Value):(w.setCell a v).cell? a=(w.cell? a).map fun _=>v:=by
 cases h:w.cell? a with
 | some u=>rw [World.cell?_setCell_same (h:=h)];rfl
 | none =>
  unfold World.cell? at h ⊢
  unfold World.setCell
  simp only [Array.getElem?_modify,if_true,Option.map_none]
  cases hh:w.heap[a.block]? with
  | none=>simp
  | some o =>
   rw [hh] at h
   cases o<;>simp_all
theorem AS {W w1:World} (hb:Below W.heap.size W w1):(∀ b o,b<W.heap.size→w1.cell? ⟨b,o,none⟩=W.cell? ⟨b,o,none⟩)∧(∀ b o,b<W.heap.size→w1.frozen? ⟨b,o,none⟩=W.frozen? ⟨b,o,none⟩)∧(∀ b,b<W.heap.size→b<w1.heap.size)∧W.heap.size≤w1.heap.size :=
 ⟨fun b o h=>hb.cell (p:=⟨b,o,none⟩) h,fun b o h=>hb.frozen (p:=⟨b,o,none⟩) h,fun b h=>Nat.lt_of_lt_of_le h hb.size,hb.size⟩
@[go_sem] theorem ltd2 (n:Nat):n<n+1+1:=by omega
@[go_sem] theorem ltd3 (n:Nat):n<n+1+1+1:=by omega
@[go_sem] theorem ltd4 (n:Nat):n<n+1+1+1+1:=by omega
@[go_sem] theorem ltd5 (n:Nat):n<n+1+1+1+1+1:=by omega
theorem A7 {V w0 X w1:World} (_:Below V.heap.size V w0) (hb:Below X.heap.size X w1) (h:Below V.heap.size V X):Below V.heap.size V w1:=h.trans (hb.mono h.size)
theorem AD {w W w2:World} (hb:Below W.heap.size W w2) (h:Below w.heap.size w W):Below w.heap.size w w2:=h.trans (hb.mono h.size)
theorem Ae {w W:World} (h:Below w.heap.size w W) (o:Obj):Below w.heap.size w (W.alloc o):=h.alloc h.size o
theorem C8 {B:Nat} {w W:World} {n:Nat} (h:Below B w W):Below B w (W.drewN n):=⟨h.os,h.tape,h.output,h.size,h.block⟩
end
structure TI where
def I0 : TI := ⟨⟩
instance : CoeDep TI I0 Value := ⟨.int .i64 0⟩
instance : Coe Int Value := ⟨fun x => .int .i64 x⟩
instance : Coe Nat Value := ⟨fun x => .int .i64 x⟩
instance : Coe Bool Value := ⟨fun x => .bool x⟩
instance : Coe World Nat := ⟨fun w => w.heap.size⟩
structure Hq (q : Prop) : Prop where
  out : q
theorem bW {p : Prop} (h : p := by (repeat (first | (with_reducible exact Below.refl _ _) | (with_reducible assumption) | (with_reducible refine Below.setCell ?_ ?side _; case side => first | (with_reducible exact Nat.le_refl _) | (simp; done) | (simp only [World.size_alloc, World.size_setCell, World.size_drew, World.heap_drewN] at *; omega)) | (with_reducible refine Ae ?_ _) | (with_reducible refine Below.drew ?_) | (with_reducible refine C8 ?_) | (with_reducible refine AD (by assumption) ?_)))) : p := h
theorem LB {p : Prop} (h : p := by (repeat (first | (with_reducible exact Ex.refl _ _) | (with_reducible assumption) | (with_reducible refine Ex.setCell ?_ ?side _; case side => first | (simp; done) | (simp only [World.size_alloc, World.size_setCell, World.size_drew, World.heap_drewN, List.mem_cons, List.mem_append, List.not_mem_nil, or_false] at *; omega)) | (with_reducible refine Ex.alloc ?_ _) | (with_reducible refine Ex.drew ?_) | (with_reducible refine Ex.drewN ?_)))) : p := h
theorem bS {p : Prop} (h : p := by (repeat (first | (with_reducible assumption) | (with_reducible exact Below.refl _ _) | (with_reducible refine Below.setCell ?_ (by first | (simp; done) | (simp [*]; done)) _) | (with_reducible refine Ae ?_ _) | (with_reducible refine Below.drew ?_) | (with_reducible refine C8 ?_)))) : p := h
theorem lH {p : Prop} (h : p) : Hid p := Lib.hid h
theorem kR {p : Prop} (h : p := by kernel_rfl) : p := h
theorem AF {p : Prop} (h : p := by exact Nat.le_of_ble_eq_true rfl) : p := h
theorem zS {p : Prop} (h : p := by exact Nat.zero_lt_succ _) : p := h
theorem dC {p : Prop} (h : p := by decide) : p := h
theorem aS {p : Prop} (h : p := by assumption) : p := h
theorem G9 {p : Prop} (h : p := by simp only []; omega) : p := h
theorem uI {p : Prop} (h : p := by unfold AE; omega) : p := h
theorem uL {p : Prop} (h : p := by unfold Ln.ok AE; dsimp only; omega) : p := h
theorem Cq {p : Prop} (h : p := by dsimp only; omega) : p := h
theorem uD {p : Prop} (h : p := by unfold AE; dsimp only; omega) : p := h
theorem oM {p : Prop} (h : p := by omega) : p := h
theorem sM {p : Prop} (h : p := by simp) : p := h
end Go.Proofs.YtahefgkdbecemaaGreat
