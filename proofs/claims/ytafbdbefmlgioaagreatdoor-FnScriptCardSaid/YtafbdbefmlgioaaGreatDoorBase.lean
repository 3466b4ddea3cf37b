/- Small facts that all walks use. -/
import Derived.Test.YtafbdbefmlgioaaGreatDoorRows
import Derived.WalkKit
import Derived.WalkSpells
import Derived.WalkLawsBesides
import Derived.IntWalk
import Derived.BigQuiet
import Derived.Deep.QuietTactic
import Derived.Lib.Hide
namespace Go.Proofs.YtafbdbefmlgioaaGreatDoor
open Go.RowKit
set_option linter.unusedVariables false
set_option linter.unusedSimpArgs false

theorem ret_int {k : IntKind} {a b : Int} (h : a = b) : Ending.returned (.int k a) = .returned (.int k b) := by rw [h]
theorem val_int {k : IntKind} {a b : Int} (h : a = b) : Value.int k a = .int k b := by rw [h]
theorem ret_bool {a b : Bool} (h : a = b) : Ending.returned (.bool a) = .returned (.bool b) := by rw [h]
theorem tt {P : Prop} [Decidable P] (h : P) : true = decide P := (decide_eq_true h).symm
theorem ff {P : Prop} [Decidable P] (h : ¬P) : false = decide P := (decide_eq_false h).symm
theorem dd {P Q : Prop} [Decidable P] [Decidable Q] (h : P ↔ Q) : decide P = decide Q := decide_eq_decide.2 h
theorem toList_inj (a b : ByteArray) : a.toList = b.toList ↔ a = b := by
  rw [ByteArray.toList_eq, ByteArray.toList_eq]
  exact ⟨fun h => ByteArray.ext (Array.toList_inj.1 h), fun h => by rw [h]⟩
theorem byte_bd (b : UInt8) : 0 ≤ (b.toNat : Int) ∧ (b.toNat : Int) ≤ 255 := by have := b.toNat_lt; omega
theorem take_snoc (s : ByteArray) (k : Nat) (h : k < s.size) : s.data.toList.take (k + 1) = s.data.toList.take k ++ [s[k]] := by
  rw [List.take_succ_eq_append_getElem (by simpa using h)]; rfl
theorem take_all (s : ByteArray) (k : Nat) (h : s.size ≤ k) : s.data.toList.take k = s.data.toList :=
  List.take_of_length_le (by simpa using h)
theorem i64_bd {n : Int} (h : (Lit.int .i64 n).wf = true) : -9223372036854775808 ≤ n ∧ n ≤ 9223372036854775807 := by
  simp only [Lit.wf, Bool.and_eq_true, decide_eq_true_eq] at h
  have h1 : IntKind.i64.min = -9223372036854775808 := rfl
  have h2 : IntKind.i64.max = 9223372036854775807 := rfl
  omega
/-- the slice (a, len) holds the integers xs, in a block below B -/
def IS (w : World) (B : Nat) (a : Option Addr) (len : Nat) (xs : List Int) : Prop :=
  xs.length = len ∧ len ≤ maxLen ∧ (∀ n ∈ xs, -9223372036854775808 ≤ n ∧ n ≤ 9223372036854775807) ∧
  ∀ (i : Nat) (x : Int), xs[i]? = some x → ∃ b off, a = some ⟨b, off, none⟩ ∧ b < B ∧ w.cell? ⟨b, off + i, none⟩ = some (.int .i64 x)
theorem IS.keepB {w w' : World} {B B' : Nat} {a : Option Addr} {len : Nat} {xs : List Int} (h : IS w B a len xs) (hb : Below B' w w') (hB : B ≤ B') : IS w' B a len xs :=
  ⟨h.1, h.2.1, h.2.2.1, fun i x hx => by
    obtain ⟨b, off, e, hlt, hc⟩ := h.2.2.2 i x hx
    exact ⟨b, off, e, hlt, (hb.cell (p := ⟨b, off + i, none⟩) (Nat.lt_of_lt_of_le hlt hB)).trans hc⟩⟩
theorem IS.mono {w : World} {B B' : Nat} {a : Option Addr} {len : Nat} {xs : List Int} (h : IS w B a len xs) (hB : B ≤ B') : IS w B' a len xs :=
  ⟨h.1, h.2.1, h.2.2.1, fun i x hx => by
    obtain ⟨b, off, e, hlt, hc⟩ := h.2.2.2 i x hx
    exact ⟨b, off, e, Nat.lt_of_lt_of_le hlt hB, hc⟩⟩
theorem IS.keep {w w' : World} {a : Option Addr} {len : Nat} {xs : List Int} (h : IS w w.heap.size a len xs) (hb : Below w.heap.size w w') : IS w' w'.heap.size a len xs :=
  (h.keepB hb (Nat.le_refl _)).mono hb.size
theorem IS.at_ {w : World} {B : Nat} {a : Option Addr} {len : Nat} {xs : List Int} (h : IS w B a len xs) {k : Nat} (hk : k < len) :
    ∃ b off x, a = some ⟨b, off, none⟩ ∧ b < B ∧ w.cell? ⟨b, off + k, none⟩ = some (.int .i64 x) ∧ (-9223372036854775808 ≤ x ∧ x ≤ 9223372036854775807) ∧ Hid (xs[k]? = some x) ∧ Hid (xs.take (k + 1) = xs.take k ++ [x]) := by
  have hl : k < xs.length := by have := h.1; omega
  obtain ⟨b, off, e, hlt, hc⟩ := h.2.2.2 k _ (List.getElem?_eq_getElem hl)
  exact ⟨b, off, _, e, hlt, hc, h.2.2.1 _ (List.getElem_mem hl), List.getElem?_eq_getElem hl, List.take_succ_eq_append_getElem hl⟩
theorem IS.all {w : World} {B : Nat} {a : Option Addr} {len : Nat} {xs : List Int} (h : IS w B a len xs) {k : Nat} (hk : len ≤ k) : xs.take k = xs :=
  List.take_of_length_le (by have := h.1; omega)
theorem IS.len {w : World} {B : Nat} {a : Option Addr} {len : Nat} {xs : List Int} (h : IS w B a len xs) : len ≤ 9223372036854775807 := by have := h.2.1; unfold maxLen at this; omega
/-- the slice (a, len) holds the elements xs, each encoded in sz cells, in a block below B -/
def FS {α : Type} (enc : α → List Value) (sz : Nat) (ok : α → Prop) (w : World) (B : Nat) (a : Option Addr) (len : Nat) (xs : List α) : Prop :=
  xs.length = len ∧ len ≤ maxLen ∧ (∀ x ∈ xs, ok x) ∧
  ∀ (i : Nat) (x : α), xs[i]? = some x → ∃ b off, a = some ⟨b, off, none⟩ ∧ b < B ∧ ∀ (j : Nat) (v : Value), (enc x)[j]? = some v → w.cell? ⟨b, off + i * sz + j, none⟩ = some v
section
variable {α : Type} {enc : α → List Value} {sz : Nat} {ok : α → Prop} {w w' : World} {B B' : Nat} {a : Option Addr} {len : Nat} {xs : List α}
theorem FS.keepB (h : FS enc sz ok w B a len xs) (hb : Below B' w w') (hB : B ≤ B') : FS enc sz ok w' B a len xs :=
  ⟨h.1, h.2.1, h.2.2.1, fun i x hx => by
    obtain ⟨b, off, e, hlt, hc⟩ := h.2.2.2 i x hx
    exact ⟨b, off, e, hlt, fun j v hv => (hb.cell (p := ⟨b, off + i * sz + j, none⟩) (Nat.lt_of_lt_of_le hlt hB)).trans (hc j v hv)⟩⟩
theorem FS.mono (h : FS enc sz ok w B a len xs) (hB : B ≤ B') : FS enc sz ok w B' a len xs :=
  ⟨h.1, h.2.1, h.2.2.1, fun i x hx => by
    obtain ⟨b, off, e, hlt, hc⟩ := h.2.2.2 i x hx
    exact ⟨b, off, e, Nat.lt_of_lt_of_le hlt hB, hc⟩⟩
theorem FS.keep (h : FS enc sz ok w w.heap.size a len xs) (hb : Below w.heap.size w w') : FS enc sz ok w' w'.heap.size a len xs :=
  (h.keepB hb (Nat.le_refl _)).mono hb.size
theorem FS.at_ (h : FS enc sz ok w B a len xs) {k : Nat} (hk : k < len) :
    ∃ b off x, a = some ⟨b, off, none⟩ ∧ b < B ∧ (∀ (j : Nat) (v : Value), (enc x)[j]? = some v → w.cell? ⟨b, off + k * sz + j, none⟩ = some v) ∧ ok x ∧ Hid (xs[k]? = some x) ∧ Hid (xs.take (k + 1) = xs.take k ++ [x]) := by
  have hl : k < xs.length := by have := h.1; omega
  obtain ⟨b, off, e, hlt, hc⟩ := h.2.2.2 k _ (List.getElem?_eq_getElem hl)
  exact ⟨b, off, _, e, hlt, hc, h.2.2.1 _ (List.getElem_mem hl), List.getElem?_eq_getElem hl, List.take_succ_eq_append_getElem hl⟩
theorem FS.all (h : FS enc sz ok w B a len xs) {k : Nat} (hk : len ≤ k) : xs.take k = xs := List.take_of_length_le (by have := h.1; omega)
theorem FS.lenB (h : FS enc sz ok w B a len xs) : len ≤ 9223372036854775807 := by have := h.2.1; unfold maxLen at this; omega
theorem FS.one (w : World) (x : α) (cs : Array Value) (t : TypeId) (g : Nat) (hg : g = w.heap.size) (hcs : cs.toList = enc x) (hx : ok x) : FS enc sz ok (w.alloc (.cells cs t)) (w.alloc (.cells cs t)).heap.size (some ⟨g, 0, none⟩) 1 [x] := by
  subst hg
  refine ⟨rfl, by simp [maxLen], by simpa using hx, fun i y hy => ⟨_, _, rfl, by simp, fun j v hv => ?_⟩⟩
  cases i with
  | zero =>
    simp at hy
    subst hy
    rw [← hcs] at hv
    rw [World.cell?_alloc_at _ _ _ _ rfl]
    simpa using hv
  | succ i => simp at hy
theorem FS.nil (w : World) (B : Nat) (a : Option Addr) : FS enc sz ok w B a 0 [] := ⟨rfl, by simp [maxLen], by simp, fun i x h => by simp at h⟩
end
@[go_sem] theorem cell?_setCell_map (w : World) (a : Addr) (v : Value) : (w.setCell a v).cell? a = (w.cell? a).map fun _ => v := by
  cases h : w.cell? a with
  | some u => rw [World.cell?_setCell_same (h := h)]; rfl
  | none =>
    unfold World.cell? at h ⊢
    unfold World.setCell
    simp only [Array.getElem?_modify, if_true, Option.map_none]
    cases hh : w.heap[a.block]? with
    | none => simp
    | some o =>
      rw [hh] at h
      cases o <;> simp_all
/-- what a world that has grown still holds: rules for the walk -/
theorem brules {W w1 : World} (hb : Below W.heap.size W w1) : (∀ b o, b < W.heap.size → w1.cell? ⟨b, o, none⟩ = W.cell? ⟨b, o, none⟩) ∧ (∀ b o, b < W.heap.size → w1.frozen? ⟨b, o, none⟩ = W.frozen? ⟨b, o, none⟩) ∧ (∀ b, b < W.heap.size → b < w1.heap.size) ∧ W.heap.size ≤ w1.heap.size :=
  ⟨fun b o h => hb.cell (p := ⟨b, o, none⟩) h, fun b o h => hb.frozen (p := ⟨b, o, none⟩) h, fun b h => Nat.lt_of_lt_of_le h hb.size, hb.size⟩
@[go_sem] theorem ltd2 (n : Nat) : n < n + 1 + 1 := by omega
@[go_sem] theorem ltd3 (n : Nat) : n < n + 1 + 1 + 1 := by omega
@[go_sem] theorem ltd4 (n : Nat) : n < n + 1 + 1 + 1 + 1 := by omega
@[go_sem] theorem ltd5 (n : Nat) : n < n + 1 + 1 + 1 + 1 + 1 := by omega
theorem below_upd {V w0 X w1 : World} (_ : Below V.heap.size V w0) (hb : Below X.heap.size X w1) (h : Below V.heap.size V X) : Below V.heap.size V w1 := h.trans (hb.mono h.size)
theorem below_via {w W w2 : World} (hb : Below W.heap.size W w2) (h : Below w.heap.size w W) : Below w.heap.size w w2 := h.trans (hb.mono h.size)
theorem below_alloc {w W : World} (h : Below w.heap.size w W) (o : Obj) : Below w.heap.size w (W.alloc o) := h.alloc h.size o
theorem below_drewN {B : Nat} {w W : World} {n : Nat} (h : Below B w W) : Below B w (W.drewN n) := ⟨h.os, h.tape, h.output, h.size, h.block⟩

end Go.Proofs.YtafbdbefmlgioaaGreatDoor
