/- What is kept where one block g alone is written. -/
import Derived.Test.YtafbdbefmlgioaaGreatDoorIntsW
namespace Go.Proofs.YtafbdbefmlgioaaGreatDoor
open Go.RowKit
set_option linter.unusedVariables false
set_option linter.unusedSimpArgs false

theorem IS.keepG {w w' : World} {B g : Nat} {a : Option Addr} {len : Nat} {xs : List Int} (h : IS w B a len xs) (hg : w.grownBy w' (some g)) (hne : ∀ p, a = some p → p.block ≠ g) : IS w' B a len xs :=
  ⟨h.1, h.2.1, h.2.2.1, fun i x hx => by
    obtain ⟨b, off, e, hlt, hc⟩ := h.2.2.2 i x hx
    exact ⟨b, off, e, hlt, hg.cell hc (by have := hne _ e; intro h; injection h with h; exact this h)⟩⟩
theorem OI.keepG {w w' : World} {B g : Nat} {a : Option Addr} {len cap : Nat} {xs : List Int} (h : OI w B a len cap xs) (hg : w.grownBy w' (some g)) (hne : ∀ p, a = some p → p.block ≠ g) : OI w' B a len cap xs := by
  refine ⟨h.1.kept hg ?_, h.2⟩
  cases a with
  | none => exact .inl rfl
  | some p => exact .inr (by have := hne p rfl; simp [Value.ownBlock]; exact this)
theorem FS.keepG {α : Type} {enc : α → List Value} {sz : Nat} {ok : α → Prop} {w w' : World} {B g : Nat} {a : Option Addr} {len : Nat} {xs : List α} (h : FS enc sz ok w B a len xs) (hg : w.grownBy w' (some g)) (hB : B ≤ g) : FS enc sz ok w' B a len xs :=
  ⟨h.1, h.2.1, h.2.2.1, fun i x hx => by
    obtain ⟨b, off, e, hlt, hc⟩ := h.2.2.2 i x hx
    exact ⟨b, off, e, hlt, fun j v hv => hg.cell (hc j v hv) (by intro h; injection h with h; simp only at h; omega)⟩⟩
theorem grown_of_below {w w' : World} (g : Nat) (hb : Below w.heap.size w w') : w.grownBy w' (some g) := ⟨hb.os, hb.tape, hb.output, hb.size, fun k hk _ => hb.block k hk⟩
theorem grown_trans {w w1 w2 : World} {g : Nat} (h : w.grownBy w1 (some g)) (h2 : w1.grownBy w2 (some g)) : w.grownBy w2 (some g) :=
  ⟨h2.os.trans h.os, h2.tape.trans h.tape, h2.output.trans h.output, Nat.le_trans h.size h2.size, fun k hk hne => (h2.block k (Nat.lt_of_lt_of_le hk h.size) hne).trans (h.block k hk hne)⟩
theorem grown_setCell (w : World) (g o : Nat) (v : Value) : w.grownBy (w.setCell ⟨g, o, none⟩ v) (some g) :=
  ⟨rfl, rfl, rfl, by simp [World.setCell], fun k hk hne => Below.heap_setCell _ _ _ _ (by intro h; exact hne (by rw [h]))⟩
theorem grown_below_of {w w' : World} {g B : Nat} (h : w.grownBy w' (some g)) (hB : B ≤ g) (hs : B ≤ w.heap.size) : Below B w w' :=
  (Below.refl B w).grown h hs (fun k hk => by injection hk with hk; omega)
theorem OI.ge {w : World} {B : Nat} {a : Option Addr} {len cap : Nat} {xs : List Int} (h : OI w B a len cap xs) : ∀ p, a = some p → B ≤ p.block := by
  intro p hp
  subst hp
  exact (h.1.lt p.block rfl).1
theorem frozen_keep {w w' : World} (hb : Below w.heap.size w w') {b o : Nat} (h : b < w.heap.size) : w'.frozen? ⟨b, o, none⟩ = w.frozen? ⟨b, o, none⟩ := hb.frozen (p := ⟨b, o, none⟩) h
theorem set_ne {w : World} {g o o' : Nat} {v u : Value} (h : w.cell? ⟨g, o, none⟩ = some u) (ho : o' ≠ o) : (w.setCell ⟨g, o', none⟩ v).cell? ⟨g, o, none⟩ = some u := by
  rw [World.cell?_setCell_other (h := by intro h; injection h with _ h; exact ho h)]; exact h
theorem set_eq {w : World} {g o : Nat} {v u : Value} (h : w.cell? ⟨g, o, none⟩ = some u) : (w.setCell ⟨g, o, none⟩ v).cell? ⟨g, o, none⟩ = some v := World.cell?_setCell_same _ _ _ h
theorem grown_fz {w w' : World} {g : Nat} (hg : w.grownBy w' (some g)) {b o : Nat} (hb : b < w.heap.size) (hne : b ≠ g) : w'.frozen? ⟨b, o, none⟩ = w.frozen? ⟨b, o, none⟩ := by
  have h := hg.block b hb (by intro h; injection h with h; exact hne h)
  simp only [World.frozen?, h]

end Go.Proofs.YtafbdbefmlgioaaGreatDoor
