/- One element more behind a row of the call's own, the elements flat structs. -/
import Derived.Test.YtjkcfjhjbjcfcaaDoorHold
import Derived.Test.YtjkcfjhjbjcfcaaDoorOwn
namespace Go.Proofs.YtjkcfjhjbjcfcaaDoor
open Go.RowKit
set_option linter.unusedVariables false
set_option linter.unusedSimpArgs false

/-- a row of the call's own: the value of the slice and its elements -/
def OwnF {α : Type} (enc : α → List Value) (sz : Nat) (E : TypeId) (w : World) (B : Nat) (v : Value) (xs : List α) : Prop := w.ownsRow B E sz v xs.length (xs.flatMap enc)
section
variable {α : Type} {enc : α → List Value} {sz : Nat} {ok : α → Prop} {E : TypeId} {w w' : World} {B : Nat} {v : Value} {xs : List α}
theorem OwnF.alloc (h : OwnF enc sz E w B v xs) (o : Obj) : OwnF enc sz E (w.alloc o) B v xs := World.ownsRow.alloc h o
theorem OwnF.nil (w : World) (B : Nat) : OwnF enc sz E w B (.slice none 0 0) ([] : List α) := World.ownsRow_nil w B _ _
theorem OwnF.of (h : OwnF enc sz E w B v xs) (hm : ∀ x ∈ xs, ok x) : ∃ a c, v = .slice a xs.length c ∧ OF enc sz ok E w B a xs.length c xs := by
  have h2 := h.2
  rcases h2 with ⟨hv, _⟩ | ⟨g, c, cur, hv, _⟩
  · subst hv; exact ⟨none, 0, by rename_i h0; rw [h0], by rename_i h0; exact ⟨by unfold OwnF at h; rw [h0] at h ⊢; exact h, rfl, hm⟩⟩
  · subst hv; exact ⟨_, _, rfl, h, rfl, hm⟩
theorem OF.own {a : Option Addr} {len cap : Nat} (h : OF enc sz ok E w B a len cap xs) : OwnF enc sz E w B (.slice a len cap) xs := by
  obtain ⟨h1, h2, h3⟩ := h
  subst h2
  exact h1
theorem OwnF.keepG {g : Nat} (h : OwnF enc sz E w B v xs) (hg : w.grownBy w' (some g)) (hB : g < B) : OwnF enc sz E w' B v xs := by
  refine World.ownsRow.kept h hg ?_
  cases hv : v.ownBlock with
  | none => exact .inl rfl
  | some k => exact .inr (by have := (h.lt k hv).1; intro e; injection e with e; omega)
theorem OF.keepG {a : Option Addr} {len cap g : Nat} (h : OF enc sz ok E w B a len cap xs) (hg : w.grownBy w' (some g)) (hB : g < B) : OF enc sz ok E w' B a len cap xs := by
  refine ⟨h.1.kept hg ?_, h.2⟩
  cases hv : (Value.slice a len cap).ownBlock with
  | none => exact .inl rfl
  | some k => exact .inr (by have := (h.1.lt k hv).1; intro e; injection e with e; omega)
theorem OwnF.keep (h : OwnF enc sz E w B v xs) (hb : Below w.heap.size w w') : OwnF enc sz E w' B v xs :=
  World.ownsRow.kept (row := none) h ⟨hb.os, hb.tape, hb.output, hb.size, fun k hk _ => hb.block k hk⟩ (by cases v.ownBlock <;> simp)
theorem wpList_append_f {S : TypeId} {z : Value} {nb : Nat} (info : (Tryd.prog.info? E).map (fun i => (i.zero, i.size, i.bytes)) = some (some z, sz, nb)) (hS : Tryd.prog.underlying S = some (.slice E)) (hzs : z.cells.size = sz) (hpos : 0 < sz) (hnb : nb ≤ 64)
    (henc : ∀ x, (enc x).length = sz) (hone : ∀ x, ∀ u ∈ enc x, u.oneCell' = true) {ops : Array Oper} {rest : List Oper} {o : Oper} {a : Act} {Q : Exit → Act → World → Prop} (hgd : o.guard = none) (s x : Operand)
    (ho : o.op = .call { callee := .builtin .append, args := #[s, x], argTypes := #[S, S] }) (B : Nat) (v : Value) (xs : List α) (hs : a.eval s = v) (hown : OwnF enc sz E w B v xs)
    (g : Nat) (y : α) (hx : a.eval x = .slice (some ⟨g, 0, none⟩) 1 1) (hy : ∀ j u, (enc y)[j]? = some u → w.cell? ⟨g, j, none⟩ = some u) (hlen : xs.length ≤ 1099511627775) (hB : B ≤ w.heap.size)
    (K : ∀ v' w', OwnF enc sz E w' B v' (xs ++ [y]) → Below B w w' → w.grownBy w' v.ownBlock → wpList Tryd.prog ops Q rest (a.put o.dst v') w') : wpList Tryd.prog ops Q (o :: rest) a w := by
  obtain ⟨i0, hi, hz0, hz1, hz2⟩ := info_parts info
  refine wpList_append_own w hgd s x S ho B E i0 z sz nb hS hi hz0 hz1 hz2 hzs hpos v xs.length (xs.flatMap enc) hs hown ⟨g, 0, none⟩ 1 1 (enc y) hx (by rw [henc]; omega) ?_ (hone y) ?_ ?_ hB ?_
  · intro j u hj
    have := hy j u hj
    unfold Addr.add
    split
    · rename_i h0; subst h0; exact this
    · simpa using this
  · unfold maxLen; omega
  · have : (xs.length + 1) * nb ≤ 1099511627776 * 64 := Nat.mul_le_mul (by omega) hnb
    omega
  · intro v' w' h1 h2 _
    refine K v' w' ?_ (grown_below hown h2 hB) h2
    unfold OwnF
    simpa using h1
end

theorem new_cells (w : World) (cs : Array Value) (t : TypeId) {l : List Value} (h : cs.toList = l) : ∀ j u, l[j]? = some u → (w.alloc (.cells cs t)).cell? ⟨w.heap.size, j, none⟩ = some u := by
  intro j u hj
  subst h
  rw [World.cell?_alloc_at _ _ _ _ rfl]
  simpa using hj
theorem OwnF.made {α : Type} {enc : α → List Value} {sz : Nat} {E : TypeId} (w : World) (B : Nat) (hb : B ≤ w.heap.size) : OwnF enc sz E (w.alloc (.cells #[] E)) B (.slice (some ⟨w.heap.size, 0, none⟩) 0 0) ([] : List α) :=
  World.ownsRow_made w #[] 0 hb (by simp [maxLen]) (by simp)

end Go.Proofs.YtjkcfjhjbjcfcaaDoor
