/- A row of cells that may be read and written: kept, stored into. -/
import Derived.Test.YtafbdbefmlgioaaGreatDoorHold
import Derived.Deep.MidRow
import Derived.Lib.AtoiErrMem
namespace Go.Proofs.YtafbdbefmlgioaaGreatDoor
open Go.RowKit
set_option linter.unusedVariables false
set_option linter.unusedSimpArgs false

/-- block b holds cs, from its head on, and may be written there -/
def Row (b : Nat) (cs : List Value) (w : World) : Prop :=
  (∀ j v, cs[j]? = some v → w.cell? ⟨b, j, none⟩ = some v) ∧ ∀ j, j < cs.length → w.frozen? ⟨b, j, none⟩ = false
theorem Row.cell {b : Nat} {cs : List Value} {w : World} (h : Row b cs w) (j : Nat) (v : Value) (hj : cs[j]? = some v) : w.cell? ⟨b, j, none⟩ = some v := h.1 j v hj
theorem Row.fr {b : Nat} {cs : List Value} {w : World} (h : Row b cs w) (j : Nat) (hj : j < cs.length) : w.frozen? ⟨b, j, none⟩ = false := h.2 j hj
theorem Row.lt {b : Nat} {cs : List Value} {w : World} (h : Row b cs w) (hp : 0 < cs.length) : b < w.heap.size := Lib.lt_of_cell (h.1 0 _ (List.getElem?_eq_getElem hp))
theorem Row.keep {b : Nat} {cs : List Value} {w w' : World} (h : Row b cs w) (hp : 0 < cs.length) (hb : Below w.heap.size w w') : Row b cs w' := by
  have hl := h.lt hp
  obtain ⟨hc, hf, -, -⟩ := brules hb
  exact ⟨fun j v hj => (hc b j hl).trans (h.1 j v hj), fun j hj => (hf b j hl).trans (h.2 j hj)⟩
theorem Row.new (w : World) (cs : Array Value) (t : TypeId) : Row w.heap.size cs.toList (w.alloc (.cells cs t)) :=
  ⟨fun j v hj => by rw [World.cell?_alloc_at _ _ _ _ rfl]; simpa using hj, fun j hj => by simp [go_sem]⟩
theorem Row.range {b : Nat} {cs : List Value} {w : World} (h : Row b cs w) : w.rangeAt b 0 cs := fun j v hj => by
  rw [Nat.zero_add]
  exact h.1 j v hj
theorem Row.there {b : Nat} {cs : List Value} {w : World} (h : Row b cs w) (o n : Nat) (hn : o + n ≤ cs.length) : w.there b o n := fun j hj => by
  have h1 := h.1 (o + j) _ (List.getElem?_eq_getElem (by omega))
  exact ⟨by rw [h1]; rfl, h.2 _ (by omega)⟩
theorem frozen_setCells (b : Nat) (a : Addr) : ∀ (vs : List Value) (o : Nat) (w : World), (w.setCells b o vs).frozen? a = w.frozen? a
  | [], _, _ => rfl
  | v :: r, o, w => by
    rw [World.setCells, frozen_setCells b a r]
    simp [go_sem]
theorem grown_setCells (b : Nat) : ∀ (vs : List Value) (o : Nat) (w : World), w.grownBy (w.setCells b o vs) (some b)
  | [], _, w => World.grownBy.refl _ _
  | v :: r, o, w => by
    rw [World.setCells]
    exact grown_trans (grown_setCell w b o v) (grown_setCells b r _ _)
theorem size_setCells (b : Nat) (vs : List Value) (o : Nat) (w : World) : w.heap.size ≤ (w.setCells b o vs).heap.size := (grown_setCells b vs o w).size
theorem belowSet {B b : Nat} {w : World} (hB : B ≤ b) : ∀ (vs : List Value) (w' : World) (o : Nat), Below B w w' → Below B w (w'.setCells b o vs)
  | [], _, _, h => h
  | v :: r, w', o, h => by rw [World.setCells]; exact belowSet hB r _ _ (Below.setCell h hB v)
theorem Row.other {b b' : Nat} {cs : List Value} {w : World} (h : Row b cs w) (hb : b ≠ b') (o : Nat) (vs : List Value) : Row b cs (w.setCells b' o vs) :=
  ⟨fun j v hj => (World.cell?_setCells_out b' vs o w ⟨b, j, none⟩ (fun e _ => absurd e hb)).trans (h.1 j v hj), fun j hj => (frozen_setCells b' _ vs o w).trans (h.2 j hj)⟩
theorem Row.put {b : Nat} {cs : List Value} {w : World} (h : Row b cs w) (o : Nat) (vs : List Value) (hn : o + vs.length ≤ cs.length) : Row b (cs.take o ++ (vs ++ cs.drop (o + vs.length))) (w.setCells b o vs) := by
  refine ⟨fun j v hj => ?_, fun j hj => (frozen_setCells b _ vs o w).trans (h.2 j ?_)⟩
  · rcases Nat.lt_or_ge j o with h1 | h1
    · rw [List.getElem?_append_left (by simp; omega), List.getElem?_take_of_lt h1] at hj
      exact (World.cell?_setCells_out b vs o w ⟨b, j, none⟩ (fun _ _ => .inl (show j < o from h1))).trans (h.1 j v hj)
    · rw [List.getElem?_append_right (by simp; omega)] at hj
      rw [List.length_take, Nat.min_eq_left (by omega)] at hj
      rcases Nat.lt_or_ge (j - o) vs.length with h2 | h2
      · rw [List.getElem?_append_left h2] at hj
        obtain ⟨k, rfl⟩ : ∃ k, j = o + k := ⟨j - o, by omega⟩
        rw [World.cell?_setCells_in b vs o w (fun i hi => ((h.there o vs.length hn) i hi).1) k (by omega), ← hj, show o + k - o = k by omega, List.getElem?_eq_getElem (by omega)]
      · rw [List.getElem?_append_right h2, List.getElem?_drop] at hj
        refine (World.cell?_setCells_out b vs o w ⟨b, j, none⟩ (fun _ _ => .inr (show o + vs.length ≤ j by omega))).trans (h.1 j v ?_)
        rw [← hj]
        congr 1
        omega
  · simp only [List.length_append, List.length_take, List.length_drop] at hj
    omega
theorem setCell_as (w : World) (b o : Nat) (v : Value) : w.setCell ⟨b, o, none⟩ v = w.setCells b o [v] := rfl

end Go.Proofs.YtafbdbefmlgioaaGreatDoor
