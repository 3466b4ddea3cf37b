/- One element more behind a row of the call's own: where it lies then. -/
import Derived.Test.YtjkcfjhjbjcfcaaDoorOwnA
import Derived.Maps.AppendAt
namespace Go.Proofs.YtjkcfjhjbjcfcaaDoor
open Go.RowKit
set_option linter.unusedVariables false
set_option linter.unusedSimpArgs false

section
variable {α : Type} {enc : α → List Value} {sz : Nat} {ok : α → Prop} {E : TypeId} {w w' : World} {B : Nat} {v : Value} {xs : List α}
theorem wpList_append_at {S : TypeId} {z : Value} {nb : Nat} (info : (Tryd.prog.info? E).map (fun i => (i.zero, i.size, i.bytes)) = some (some z, sz, nb)) (hS : Tryd.prog.underlying S = some (.slice E)) (hzs : z.cells.size = sz) (hpos : 0 < sz) (hnb : nb ≤ 64)
    (henc : ∀ x, (enc x).length = sz) (hone : ∀ x, ∀ u ∈ enc x, u.oneCell' = true) {ops : Array Oper} {rest : List Oper} {o : Oper} {a : Act} {Q : Exit → Act → World → Prop} (hgd : o.guard = none) (s x : Operand)
    (ho : o.op = .call { callee := .builtin .append, args := #[s, x], argTypes := #[S, S] }) (B : Nat) (v : Value) (xs : List α) (hs : a.eval s = v) (hown : OwnF enc sz E w B v xs)
    (g : Nat) (y : α) (hx : a.eval x = .slice (some ⟨g, 0, none⟩) 1 1) (hy : ∀ j u, (enc y)[j]? = some u → w.cell? ⟨g, j, none⟩ = some u) (hlen : xs.length ≤ 1099511627775) (hB : B ≤ w.heap.size)
    (K : ∀ v' w', OwnF enc sz E w' B v' (xs ++ [y]) → Below B w w' → w.grownBy w' v.ownBlock → (v'.ownBlock = v.ownBlock ∨ v'.ownBlock = some w.heap.size) → wpList Tryd.prog ops Q rest (a.put o.dst v') w') : wpList Tryd.prog ops Q (o :: rest) a w := by
  obtain ⟨i0, hi, hz0, hz1, hz2⟩ := info_parts info
  refine wpList_append_own_at w hgd s x S ho B E i0 z sz nb hS hi hz0 hz1 hz2 hzs hpos v xs.length (xs.flatMap enc) hs hown ⟨g, 0, none⟩ 1 1 (enc y) hx (by rw [henc]; omega) ?_ (hone y) ?_ ?_ hB ?_
  · intro j u hj
    have := hy j u hj
    unfold Addr.add
    split
    · rename_i h0; subst h0; exact this
    · simpa using this
  · unfold maxLen; omega
  · have : (xs.length + 1) * nb ≤ 1099511627776 * 64 := Nat.mul_le_mul (by omega) hnb
    omega
  · intro v' w' h1 h2 _ h4
    refine K v' w' ?_ (grown_below hown h2 hB) h2 h4
    unfold OwnF
    simpa using h1
end
theorem grow_step {w0 w w' : World} {r : Nat} {ob : Option Nat} (hg : w0.grownBy w (some r)) (hw : w.grownBy w' ob) (ho : ob = some r ∨ ∃ b, ob = some b ∧ w0.heap.size ≤ b) : w0.grownBy w' (some r) := by
  obtain ⟨o1, t1, p1, s1, b1⟩ := hg
  obtain ⟨o2, t2, p2, s2, b2⟩ := hw
  refine ⟨o2.trans o1, t2.trans t1, p2.trans p1, Nat.le_trans s1 s2, fun k hk hne => ?_⟩
  refine (b2 k (Nat.lt_of_lt_of_le hk s1) ?_).trans (b1 k hk hne)
  rcases ho with rfl | ⟨b, rfl, hb⟩
  · exact hne
  · intro e
    injection e with e
    omega

end Go.Proofs.YtjkcfjhjbjcfcaaDoor
