/- Rows of the call's own whose elements are flat structs. -/
import Derived.Test.YtfijgegegfpfkaaGrew
namespace Go.Proofs.Ytfijgegegfpfkaa
open Go.RowKit
set_option linter.unusedVariables false
set_option linter.unusedSimpArgs false

def I64 (n : Int) : Prop := -9223372036854775808 ≤ n ∧ n ≤ 9223372036854775807
def StrOk (s : ByteArray) : Prop := s.size ≤ 9223372036854775807
section
variable {α : Type} {enc : α → List Value} {sz : Nat} {ok : α → Prop} {E : TypeId} {w w' : World} {B B' : Nat} {a : Option Addr} {len cap : Nat} {xs : List α}
def OF (enc : α → List Value) (sz : Nat) (ok : α → Prop) (E : TypeId) (w : World) (B : Nat) (a : Option Addr) (len cap : Nat) (xs : List α) : Prop :=
  w.ownsRow B E sz (.slice a len cap) len (xs.flatMap enc) ∧ xs.length = len ∧ ∀ x ∈ xs, ok x
theorem flatMap_get (henc : ∀ x, (enc x).length = sz) : ∀ (xs : List α) (i : Nat) (x : α) (j : Nat) (v : Value), xs[i]? = some x → (enc x)[j]? = some v → (xs.flatMap enc)[i * sz + j]? = some v
  | [], i, x, j, v, h, _ => by simp at h
  | y :: ys, 0, x, j, v, h, hv => by
    simp at h; subst h
    have hj : j < (enc y).length := (List.getElem?_eq_some_iff.1 hv).1
    simp only [List.flatMap_cons, Nat.zero_mul, Nat.zero_add]
    rw [List.getElem?_append_left hj]; exact hv
  | y :: ys, i + 1, x, j, v, h, hv => by
    simp at h
    have := flatMap_get henc ys i x j v h hv
    simp only [List.flatMap_cons]
    rw [List.getElem?_append_right (by rw [henc, Nat.add_mul]; omega), henc, show (i + 1) * sz + j - sz = i * sz + j by rw [Nat.add_mul]; omega]
    exact this
theorem flatMap_len (henc : ∀ x, (enc x).length = sz) (xs : List α) : (xs.flatMap enc).length = xs.length * sz := by
  induction xs with
  | nil => simp
  | cons x xs ih => simp only [List.flatMap_cons, List.length_append, henc, ih, List.length_cons, Nat.add_mul]; omega
theorem OF.lenB (h : OF enc sz ok E w B a len cap xs) : len ≤ maxLen := by
  obtain ⟨⟨_, h2⟩, _⟩ := h
  rcases h2 with ⟨_, h0⟩ | ⟨_, _, _, _, _, _, h3, h4, _⟩
  · subst h0; simp [maxLen]
  · exact Nat.le_trans h3 h4
theorem OF.capB (h : OF enc sz ok E w B a len cap xs) : len ≤ cap := by
  obtain ⟨⟨_, h2⟩, _⟩ := h
  rcases h2 with ⟨h0, h1⟩ | ⟨_, _, _, hv, _, _, h3, _⟩
  · omega
  · injection hv with _ _ e; omega
theorem OF.fs (henc : ∀ x, (enc x).length = sz) (h : OF enc sz ok E w B a len cap xs) : FS enc sz ok w w.heap.size a len xs := by
  have hl := h.lenB
  obtain ⟨hown, h2, h3⟩ := h
  refine ⟨h2, hl, h3, fun i x hx => ?_⟩
  have hi : i < len := by have := (List.getElem?_eq_some_iff.1 hx).1; omega
  rcases hown.2 with ⟨_, h0⟩ | ⟨g, c, cur, hv, hg, hh, hnc, hcm, hsz, ht⟩
  · omega
  · injection hv with e1 e2 e3
    subst e1; subst e3
    refine ⟨g, 0, rfl, ?_, fun j v hv => ?_⟩
    · rcases Nat.lt_or_ge g w.heap.size with hlt | hge
      · exact hlt
      · rw [Array.getElem?_eq_none hge] at hh; cases hh
    · have hget := flatMap_get henc xs i x j v hx hv
      have hj : i * sz + j < len * sz := by
        have := (List.getElem?_eq_some_iff.1 hget).1
        rwa [flatMap_len henc, h2] at this
      have := hown.cellAt (i * sz + j) hj
      rw [hget] at this
      simpa using this
theorem OF.keep (h : OF enc sz ok E w B a len cap xs) (hb : Below w.heap.size w w') : OF enc sz ok E w' B a len cap xs :=
  ⟨h.1.kept (row := none) ⟨hb.os, hb.tape, hb.output, hb.size, fun k hk _ => hb.block k hk⟩ (by cases a <;> simp [Value.ownBlock]), h.2⟩
theorem OF.lt (h : OF enc sz ok E w B a len cap xs) : ∀ p, a = some p → p.block < w.heap.size := by
  intro p hp
  subst hp
  exact (h.1.lt p.block rfl).2
theorem OF.le (h : OF enc sz ok E w B a len cap xs) (hB : B' ≤ B) : OF enc sz ok E w B' a len cap xs := by
  obtain ⟨⟨h1, h2⟩, h3⟩ := h
  refine ⟨⟨h1, ?_⟩, h3⟩
  rcases h2 with h2 | ⟨g, cap, cur, hv, hg, hr⟩
  · exact .inl h2
  · exact .inr ⟨g, cap, cur, hv, Nat.le_trans hB hg, hr⟩
end
theorem set_at (p r : List Value) (y v : Value) (k : Nat) (hk : k = p.length) : (p ++ y :: r).set k v = (p ++ [v]) ++ r := by
  subst hk
  rw [List.set_append_right _ _ (Nat.le_refl _)]; simp
theorem block_ne (w : World) {B : Nat} {a : Option Addr} {len cap : Nat} {E : TypeId} {sz : Nat} {xs : List Value} (h : w.ownsRow B E sz (.slice a len cap) len xs) (hl : 0 < len) : ∃ g, a = some ⟨g, 0, none⟩ ∧ B ≤ g := by
  rcases h.2 with ⟨_, h0⟩ | ⟨g, _, _, hv, hg, _⟩
  · omega
  · injection hv with e; exact ⟨g, e, hg⟩

end Go.Proofs.Ytfijgegegfpfkaa
