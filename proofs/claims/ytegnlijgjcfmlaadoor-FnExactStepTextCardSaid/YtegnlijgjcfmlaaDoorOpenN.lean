/- Opening a parameter that is a struct of structs and slices: its cells, one by one. -/
import Derived.Test.YtegnlijgjcfmlaaDoorOpen
namespace Go.Proofs.YtegnlijgjcfmlaaDoor
open Go.RowKit Go.ChangeShapes Go.WideShapes Go.ChangeAt
set_option linter.unusedVariables false
set_option linter.unusedSimpArgs false

/-- the cells of a type that are no structs, with their types -/
def leafs (P : Program) : Nat → TypeId → Nat → List (Nat × TypeId)
  | 0, t, o => [(o, t)]
  | n + 1, t, o => match P.underlying t with
    | some (.struct fs) => fs.toList.flatMap fun f => if f.offset + P.cellsOf f.type ≤ P.cellsOf t then leafs P n f.type (o + f.offset) else []
    | _ => [(o, t)]
theorem list_of {α : Type} {l m : List α} (hl : l.length = m.length) (h : ∀ j, j < m.length → l[j]? = m[j]?) : l = m := by
  apply List.ext_getElem?
  intro j
  rcases Nat.lt_or_ge j m.length with hj | hj
  · exact h j hj
  · rw [List.getElem?_eq_none hj, List.getElem?_eq_none (by omega)]

section
variable {H : Type} {enc : TypeId × Value → H} {P : Program} {w : World} {base : Nat} {spare : Nat → Bool} {held : Bool}
theorem leafs_trod : ∀ (n : Nat) (t : TypeId) (o fuel : Nat) (cs : List Value) (x : DataW H × List MemPlace), DataW.trod enc P w base spare held fuel t ((cs.drop o).take (P.cellsOf t)) = some x →
    ∀ j u, (j, u) ∈ leafs P n t o → ∃ m y, DataW.trod enc P w base spare held m u ((cs.drop j).take (P.cellsOf u)) = some y
  | 0, t, o, fuel, cs, x, h, j, u, hm => by
    simp [leafs] at hm
    obtain ⟨rfl, rfl⟩ := hm
    exact ⟨_, _, h⟩
  | n + 1, t, o, fuel, cs, x, h, j, u, hm => by
    unfold leafs at hm
    split at hm
    · rename_i fs ht
      obtain ⟨xs, k, _, _, _, hlen, hf⟩ := DataW.trod_struct ht h
      obtain ⟨f, hfm, hj⟩ := List.mem_flatMap.1 hm
      split at hj
      · rename_i hle
        obtain ⟨i, hi, hif⟩ := List.getElem_of_mem hfm
        have h1 := hf i f (by rw [← hif]; simp)
        have h2 : xs[i]? = some (xs[i]'(by simp at hi; omega)) := List.getElem?_eq_getElem (by simp at hi; omega)
        rw [h2] at h1
        have e : List.take (P.cellsOf f.type) (List.drop f.offset (List.take (P.cellsOf t) (List.drop o cs))) = (cs.drop (o + f.offset)).take (P.cellsOf f.type) := by
          rw [List.drop_take, List.drop_drop, List.take_take, Nat.min_eq_left (by omega)]
        rw [e] at h1
        exact leafs_trod n f.type (o + f.offset) k cs _ h1 j u hj
      · simp at hj
    · simp at hm
      obtain ⟨rfl, rfl⟩ := hm
      exact ⟨_, _, h⟩
theorem open_leafs {r : Reach} {b0 n : Nat} {t : TypeId} {fs : Array Field} {v : Value} {d : DataW H} {p : List MemPlace} {L : List (Nat × TypeId)} (hs : P.underlying t = some (.struct fs)) (hL : leafs P n t 0 = L)
    (hone : (L.all fun q => decide (P.cellsOf q.2 = 1 ∧ q.1 < P.cellsOf t)) = true) (hv : Value.okWide P w r b0 t v) (h : DataW.Trod enc P w base spare held t v d p) :
    ∃ (cs : List Value), v = .agg cs.toArray ∧ cs.length = P.cellsOf t ∧
      ∀ (j : Nat) (u : TypeId), (j, u) ∈ L → ∃ (n : Nat) (c : Value) (y : DataW H × List MemPlace), cs[j]? = some c ∧ DataW.trod enc P w base spare held n u [c] = some y := by
  obtain ⟨cs, rfl, hsz⟩ := okWide_struct hs hv
  obtain ⟨l⟩ := cs
  have hl : l.length = P.cellsOf t := by simpa using hsz
  obtain ⟨fuel, hf⟩ := h
  refine ⟨l, rfl, hl, fun j u hj => ?_⟩
  have hq := of_decide_eq_true (List.all_eq_true.1 hone _ hj)
  have hf' : DataW.trod enc P w base spare held fuel t ((l.drop 0).take (P.cellsOf t)) = some (d, p) := by
    rw [List.drop_zero, List.take_of_length_le (by omega)]
    exact hf
  obtain ⟨m, y, hy⟩ := leafs_trod n t 0 fuel l (d, p) hf' j u (by rw [hL]; exact hj)
  have hjl : j < l.length := by have := hq.2; simp only at this; omega
  rw [show P.cellsOf u = 1 from hq.1, List.drop_eq_getElem_cons hjl] at hy
  exact ⟨m, l[j], y, List.getElem?_eq_getElem hjl, hy⟩
theorem leaf_slice {u e : TypeId} {n : Nat} {c : Value} {y : DataW H × List MemPlace} (hu : P.underlying u = some (.slice e)) (h : DataW.trod enc P w base spare held n u [c] = some y) :
    ∃ a len cap, c = .slice a len cap ∧ DataW.Trod enc P w base spare held u (.slice a len cap) y.1 y.2 := by
  rcases DataW.trod_slice hu h with ⟨hc, _⟩ | ⟨a, len, cap, _, _, _, _, hc, _⟩
  · simp at hc
    subst hc
    exact ⟨_, _, _, rfl, n, h⟩
  · simp at hc
    subst hc
    exact ⟨_, _, _, rfl, n, h⟩
end

end Go.Proofs.YtegnlijgjcfmlaaDoor
