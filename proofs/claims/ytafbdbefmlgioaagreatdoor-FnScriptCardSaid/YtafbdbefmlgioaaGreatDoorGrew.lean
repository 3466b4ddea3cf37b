/- Regions that draw their order, whose operations read and whose calls make memory of their own: one walk in the order of the text. The class of worlds: what has grown out of w. -/
import Derived.Test.YtafbdbefmlgioaaGreatDoorBase
namespace Go.Proofs.YtafbdbefmlgioaaGreatDoor
open Go.RowKit
set_option linter.unusedVariables false
set_option linter.unusedSimpArgs false

structure Grew (w : World) where
  to : World
  below : Below w.heap.size w to

instance Grew.inh (w : World) : Nonempty (Grew w) := ⟨⟨w, Below.refl _ _⟩⟩
theorem Grew.cell {w : World} (g : Grew w) {b o : Nat} {v : Value} (h : w.cell? ⟨b, o, none⟩ = some v) : g.to.cell? ⟨b, o, none⟩ = some v := by
  have hlt : b < w.heap.size := by
    rcases Nat.lt_or_ge b w.heap.size with hlt | hge
    · exact hlt
    · simp [World.cell?, Array.getElem?_eq_none hge] at h
  rw [g.below.cell (p := ⟨b, o, none⟩) hlt]; exact h
theorem cell_keep {w w' : World} (hb : Below w.heap.size w w') {b o : Nat} {v : Value} (h : w.cell? ⟨b, o, none⟩ = some v) : w'.cell? ⟨b, o, none⟩ = some v := Grew.cell ⟨w', hb⟩ h

theorem wp_region_grew {P : Program} {id : Nat} {Q : Exit → Act → World → Prop} {a : Act} {w : World} {l : List Oper} (hm : P.follows .mixedOrders = true) (hB : Region.lexB .any l.toArray = true)
    (h : wpQuiet P l.toArray (fun w' => ∃ g : Grew w, w' = g.to) (fun a' => ∀ w', (∃ g : Grew w, w' = g.to) → Q .normal a' w') l a) : (Code.region id l.toArray true).wp P Q a w :=
  wp_region_quiet (C := fun w' => ∃ g : Grew w, w' = g.to) hm hB ⟨⟨w.drew, (Below.refl _ _).drew⟩, rfl⟩ (by simpa using h)

theorem Calls.grew_of {P : Program} {f : FuncId} {args : Array Value} {w : World} {g : Grew w} {v : Value}
    (h : Calls P f args g.to fun e w' => e = .returned v ∧ Below g.to.heap.size g.to w') : Calls P f args g.to fun e w'' => e = .returned v ∧ ∃ g' : Grew w, w'' = g'.to :=
  h.mono fun _ w' ⟨he, hb⟩ => ⟨he, ⟨w', g.below.trans (hb.mono g.below.size)⟩, rfl⟩
theorem Calls.grew_of_same {P : Program} {f : FuncId} {args : Array Value} {w : World} {g : Grew w} {v : Value}
    (h : Calls P f args g.to fun e w' => e = .returned v ∧ g.to = w') : Calls P f args g.to fun e w'' => e = .returned v ∧ ∃ g' : Grew w, w'' = g'.to :=
  h.mono fun _ w' ⟨he, hb⟩ => ⟨he, g, hb.symm⟩
end Go.Proofs.YtafbdbefmlgioaaGreatDoor
