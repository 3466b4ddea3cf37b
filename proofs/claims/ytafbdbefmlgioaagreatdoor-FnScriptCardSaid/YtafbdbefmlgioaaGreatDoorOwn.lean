/- Rows of the call's own whose elements are flat structs. -/
import Derived.Test.YtafbdbefmlgioaaGreatDoorGrew
import Derived.Test.YtafbdbefmlgioaaGreatDoorHold
import Derived.Maps.AppendAt
namespace Go.Proofs.YtafbdbefmlgioaaGreatDoor
open Go.RowKit
set_option linter.unusedVariables false
set_option linter.unusedSimpArgs false

def I64 (n : Int) : Prop := -9223372036854775808 ≤ n ∧ n ≤ 9223372036854775807
def StrOk (s : ByteArray) : Prop := s.size ≤ 9223372036854775807
section
variable {α : Type} {enc : α → List Value} {sz : Nat} {ok : α → Prop} {E : TypeId} {w w' : World} {B B' : Nat} {a : Option Addr} {len cap : Nat} {xs : List α}
def OF (enc : α → List Value) (sz : Nat) (ok : α → Prop) (E : TypeId) (w : World) (B : Nat) (a : Option Addr) (len cap : Nat) (xs : List α) : Prop :=
  w.ownsRow B E sz (.slice a len cap) len (xs.flatMap enc) ∧ xs.length = len ∧ ∀ x ∈ xs, ok x
theorem flatMap_get (henc : ∀ x, (enc x).length = sz) : ∀ (xs : List α) (i : Nat) (x : α) (j : Nat) (v : Value), xs[i]? = some x → (enc x)[j]? = some v → (xs.flatMap enc)[i * sz + j]? = some v
  | [], i, x, j, v, h, _ => by simp at h
  | y :: ys, 0, x, j, v, h, hv => by
    simp at h; subst h
    have hj : j < (enc y).length := (List.getElem?_eq_some_iff.1 hv).1
    simp only [List.flatMap_cons, Nat.zero_mul, Nat.zero_add]
    rw [List.getElem?_append_left hj]; exact hv
  | y :: ys, i + 1, x, j, v, h, hv => by
    simp at h
    have := flatMap_get henc ys i x j v h hv
    simp only [List.flatMap_cons]
    rw [List.getElem?_append_right (by rw [henc, Nat.add_mul]; omega), henc, show (i + 1) * sz + j - sz = i * sz + j by rw [Nat.add_mul]; omega]
    exact this
theorem flatMap_len (henc : ∀ x, (enc x).length = sz) (xs : List α) : (xs.flatMap enc).length = xs.length * sz := by
  induction xs with
  | nil => simp
  | cons x xs ih => simp only [List.flatMap_cons, List.length_append, henc, ih, List.length_cons, Nat.add_mul]; omega
theorem OF.lenB (h : OF enc sz ok E w B a len cap xs) : len ≤ maxLen := by
  obtain ⟨⟨_, h2⟩, _⟩ := h
  rcases h2 with ⟨_, h0⟩ | ⟨_, _, _, _, _, _, h3, h4, _⟩
  · subst h0; simp [maxLen]
  · exact Nat.le_trans h3 h4
theorem OF.capB (h : OF enc sz ok E w B a len cap xs) : len ≤ cap := by
  obtain ⟨⟨_, h2⟩, _⟩ := h
  rcases h2 with ⟨h0, h1⟩ | ⟨_, _, _, hv, _, _, h3, _⟩
  · omega
  · injection hv with _ _ e; omega
theorem OF.fs (henc : ∀ x, (enc x).length = sz) (h : OF enc sz ok E w B a len cap xs) : FS enc sz ok w w.heap.size a len xs := by
  have hl := h.lenB
  obtain ⟨hown, h2, h3⟩ := h
  refine ⟨h2, hl, h3, fun i x hx => ?_⟩
  have hi : i < len := by have := (List.getElem?_eq_some_iff.1 hx).1; omega
  rcases hown.2 with ⟨_, h0⟩ | ⟨g, c, cur, hv, hg, hh, hnc, hcm, hsz, ht⟩
  · omega
  · injection hv with e1 e2 e3
    subst e1; subst e3
    refine ⟨g, 0, rfl, ?_, fun j v hv => ?_⟩
    · rcases Nat.lt_or_ge g w.heap.size with hlt | hge
      · exact hlt
      · rw [Array.getElem?_eq_none hge] at hh; cases hh
    · have hget := flatMap_get henc xs i x j v hx hv
      have hj : i * sz + j < len * sz := by
        have := (List.getElem?_eq_some_iff.1 hget).1
        rwa [flatMap_len henc, h2] at this
      have := hown.cellAt (i * sz + j) hj
      rw [hget] at this
      simpa using this
theorem OF.keep (h : OF enc sz ok E w B a len cap xs) (hb : Below w.heap.size w w') : OF enc sz ok E w' B a len cap xs :=
  ⟨h.1.kept (row := none) ⟨hb.os, hb.tape, hb.output, hb.size, fun k hk _ => hb.block k hk⟩ (by cases a <;> simp [Value.ownBlock]), h.2⟩
theorem OF.lt (h : OF enc sz ok E w B a len cap xs) : ∀ p, a = some p → p.block < w.heap.size := by
  intro p hp
  subst hp
  exact (h.1.lt p.block rfl).2
theorem OF.le (h : OF enc sz ok E w B a len cap xs) (hB : B' ≤ B) : OF enc sz ok E w B' a len cap xs := by
  obtain ⟨⟨h1, h2⟩, h3⟩ := h
  refine ⟨⟨h1, ?_⟩, h3⟩
  rcases h2 with h2 | ⟨g, cap, cur, hv, hg, hr⟩
  · exact .inl h2
  · exact .inr ⟨g, cap, cur, hv, Nat.le_trans hB hg, hr⟩
end
theorem set_at (p r : List Value) (y v : Value) (k : Nat) (hk : k = p.length) : (p ++ y :: r).set k v = (p ++ [v]) ++ r := by
  subst hk
  rw [List.set_append_right _ _ (Nat.le_refl _)]; simp
theorem block_ne (w : World) {B : Nat} {a : Option Addr} {len cap : Nat} {E : TypeId} {sz : Nat} {xs : List Value} (h : w.ownsRow B E sz (.slice a len cap) len xs) (hl : 0 < len) : ∃ g, a = some ⟨g, 0, none⟩ ∧ B ≤ g := by
  rcases h.2 with ⟨_, h0⟩ | ⟨g, _, _, hv, hg, _⟩
  · omega
  · injection hv with e; exact ⟨g, e, hg⟩

/-- a row of the call's own: the value of the slice and its elements -/
def OwnF {α : Type} (enc : α → List Value) (sz : Nat) (E : TypeId) (w : World) (B : Nat) (v : Value) (xs : List α) : Prop := w.ownsRow B E sz v xs.length (xs.flatMap enc)
section
variable {α : Type} {enc : α → List Value} {sz : Nat} {ok : α → Prop} {E : TypeId} {w w' : World} {B : Nat} {v : Value} {xs : List α}
theorem OwnF.alloc (h : OwnF enc sz E w B v xs) (o : Obj) : OwnF enc sz E (w.alloc o) B v xs := World.ownsRow.alloc h o
theorem OwnF.nil (w : World) (B : Nat) : OwnF enc sz E w B (.slice none 0 0) ([] : List α) := World.ownsRow_nil w B _ _
theorem OwnF.of (h : OwnF enc sz E w B v xs) (hm : ∀ x ∈ xs, ok x) : ∃ a c, v = .slice a xs.length c ∧ OF enc sz ok E w B a xs.length c xs := by
  have h2 := h.2
  rcases h2 with ⟨hv, _⟩ | ⟨g, c, cur, hv, _⟩
  · subst hv; exact ⟨none, 0, by rename_i h0; rw [h0], by rename_i h0; exact ⟨by unfold OwnF at h; rw [h0] at h ⊢; exact h, rfl, hm⟩⟩
  · subst hv; exact ⟨_, _, rfl, h, rfl, hm⟩
theorem OF.own {a : Option Addr} {len cap : Nat} (h : OF enc sz ok E w B a len cap xs) : OwnF enc sz E w B (.slice a len cap) xs := by
  obtain ⟨h1, h2, h3⟩ := h
  subst h2
  exact h1
theorem OwnF.keepG {g : Nat} (h : OwnF enc sz E w B v xs) (hg : w.grownBy w' (some g)) (hB : g < B) : OwnF enc sz E w' B v xs := by
  refine World.ownsRow.kept h hg ?_
  cases hv : v.ownBlock with
  | none => exact .inl rfl
  | some k => exact .inr (by have := (h.lt k hv).1; intro e; injection e with e; omega)
theorem OF.keepG {a : Option Addr} {len cap g : Nat} (h : OF enc sz ok E w B a len cap xs) (hg : w.grownBy w' (some g)) (hB : g < B) : OF enc sz ok E w' B a len cap xs := by
  refine ⟨h.1.kept hg ?_, h.2⟩
  cases hv : (Value.slice a len cap).ownBlock with
  | none => exact .inl rfl
  | some k => exact .inr (by have := (h.1.lt k hv).1; intro e; injection e with e; omega)
theorem OwnF.keep (h : OwnF enc sz E w B v xs) (hb : Below w.heap.size w w') : OwnF enc sz E w' B v xs :=
  World.ownsRow.kept (row := none) h ⟨hb.os, hb.tape, hb.output, hb.size, fun k hk _ => hb.block k hk⟩ (by cases v.ownBlock <;> simp)
theorem wpList_append_f {S : TypeId} {z : Value} {nb : Nat} (info : (Tryz.prog.info? E).map (fun i => (i.zero, i.size, i.bytes)) = some (some z, sz, nb)) (hS : Tryz.prog.underlying S = some (.slice E)) (hzs : z.cells.size = sz) (hpos : 0 < sz) (hnb : nb ≤ 64)
    (henc : ∀ x, (enc x).length = sz) (hone : ∀ x, ∀ u ∈ enc x, u.oneCell' = true) {ops : Array Oper} {rest : List Oper} {o : Oper} {a : Act} {Q : Exit → Act → World → Prop} (hgd : o.guard = none) (s x : Operand)
    (ho : o.op = .call { callee := .builtin .append, args := #[s, x], argTypes := #[S, S] }) (B : Nat) (v : Value) (xs : List α) (hs : a.eval s = v) (hown : OwnF enc sz E w B v xs)
    (g : Nat) (y : α) (hx : a.eval x = .slice (some ⟨g, 0, none⟩) 1 1) (hy : ∀ j u, (enc y)[j]? = some u → w.cell? ⟨g, j, none⟩ = some u) (hlen : xs.length ≤ 1099511627775) (hB : B ≤ w.heap.size)
    (K : ∀ v' w', OwnF enc sz E w' B v' (xs ++ [y]) → Below B w w' → w.grownBy w' v.ownBlock → wpList Tryz.prog ops Q rest (a.put o.dst v') w') : wpList Tryz.prog ops Q (o :: rest) a w := by
  obtain ⟨i0, hi, hz0, hz1, hz2⟩ := info_parts info
  refine wpList_append_own w hgd s x S ho B E i0 z sz nb hS hi hz0 hz1 hz2 hzs hpos v xs.length (xs.flatMap enc) hs hown ⟨g, 0, none⟩ 1 1 (enc y) hx (by rw [henc]; omega) ?_ (hone y) ?_ ?_ hB ?_
  · intro j u hj
    have := hy j u hj
    unfold Addr.add
    split
    · rename_i h0; subst h0; exact this
    · simpa using this
  · unfold maxLen; omega
  · have : (xs.length + 1) * nb ≤ 1099511627776 * 64 := Nat.mul_le_mul (by omega) hnb
    omega
  · intro v' w' h1 h2 _
    refine K v' w' ?_ (grown_below hown h2 hB) h2
    unfold OwnF
    simpa using h1
end

theorem new_cells (w : World) (cs : Array Value) (t : TypeId) {l : List Value} (h : cs.toList = l) : ∀ j u, l[j]? = some u → (w.alloc (.cells cs t)).cell? ⟨w.heap.size, j, none⟩ = some u := by
  intro j u hj
  subst h
  rw [World.cell?_alloc_at _ _ _ _ rfl]
  simpa using hj
theorem OwnF.made {α : Type} {enc : α → List Value} {sz : Nat} {E : TypeId} (w : World) (B : Nat) (hb : B ≤ w.heap.size) : OwnF enc sz E (w.alloc (.cells #[] E)) B (.slice (some ⟨w.heap.size, 0, none⟩) 0 0) ([] : List α) :=
  World.ownsRow_made w #[] 0 hb (by simp [maxLen]) (by simp)

section
variable {α : Type} {enc : α → List Value} {sz : Nat} {ok : α → Prop} {E : TypeId} {w w' : World} {B : Nat} {v : Value} {xs : List α}
theorem wpList_append_at {S : TypeId} {z : Value} {nb : Nat} (info : (Tryz.prog.info? E).map (fun i => (i.zero, i.size, i.bytes)) = some (some z, sz, nb)) (hS : Tryz.prog.underlying S = some (.slice E)) (hzs : z.cells.size = sz) (hpos : 0 < sz) (hnb : nb ≤ 64)
    (henc : ∀ x, (enc x).length = sz) (hone : ∀ x, ∀ u ∈ enc x, u.oneCell' = true) {ops : Array Oper} {rest : List Oper} {o : Oper} {a : Act} {Q : Exit → Act → World → Prop} (hgd : o.guard = none) (s x : Operand)
    (ho : o.op = .call { callee := .builtin .append, args := #[s, x], argTypes := #[S, S] }) (B : Nat) (v : Value) (xs : List α) (hs : a.eval s = v) (hown : OwnF enc sz E w B v xs)
    (g : Nat) (y : α) (hx : a.eval x = .slice (some ⟨g, 0, none⟩) 1 1) (hy : ∀ j u, (enc y)[j]? = some u → w.cell? ⟨g, j, none⟩ = some u) (hlen : xs.length ≤ 1099511627775) (hB : B ≤ w.heap.size)
    (K : ∀ v' w', OwnF enc sz E w' B v' (xs ++ [y]) → Below B w w' → w.grownBy w' v.ownBlock → (v'.ownBlock = v.ownBlock ∨ v'.ownBlock = some w.heap.size) → wpList Tryz.prog ops Q rest (a.put o.dst v') w') : wpList Tryz.prog ops Q (o :: rest) a w := by
  obtain ⟨i0, hi, hz0, hz1, hz2⟩ := info_parts info
  refine wpList_append_own_at w hgd s x S ho B E i0 z sz nb hS hi hz0 hz1 hz2 hzs hpos v xs.length (xs.flatMap enc) hs hown ⟨g, 0, none⟩ 1 1 (enc y) hx (by rw [henc]; omega) ?_ (hone y) ?_ ?_ hB ?_
  · intro j u hj
    have := hy j u hj
    unfold Addr.add
    split
    · rename_i h0; subst h0; exact this
    · simpa using this
  · unfold maxLen; omega
  · have : (xs.length + 1) * nb ≤ 1099511627776 * 64 := Nat.mul_le_mul (by omega) hnb
    omega
  · intro v' w' h1 h2 _ h4
    refine K v' w' ?_ (grown_below hown h2 hB) h2 h4
    unfold OwnF
    simpa using h1
end
theorem grow_step {w0 w w' : World} {r : Nat} {ob : Option Nat} (hg : w0.grownBy w (some r)) (hw : w.grownBy w' ob) (ho : ob = some r ∨ ∃ b, ob = some b ∧ w0.heap.size ≤ b) : w0.grownBy w' (some r) := by
  obtain ⟨o1, t1, p1, s1, b1⟩ := hg
  obtain ⟨o2, t2, p2, s2, b2⟩ := hw
  refine ⟨o2.trans o1, t2.trans t1, p2.trans p1, Nat.le_trans s1 s2, fun k hk hne => ?_⟩
  refine (b2 k (Nat.lt_of_lt_of_le hk s1) ?_).trans (b1 k hk hne)
  rcases ho with rfl | ⟨b, rfl, hb⟩
  · exact hne
  · intro e
    injection e with e
    omega

end Go.Proofs.YtafbdbefmlgioaaGreatDoor
