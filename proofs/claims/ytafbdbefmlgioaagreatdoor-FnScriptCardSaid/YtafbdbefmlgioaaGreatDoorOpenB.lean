/- A slice of bytes that came in, opened as a row. -/
import Derived.Test.YtafbdbefmlgioaaGreatDoorCur
import Derived.Test.YtafbdbefmlgioaaGreatDoorOpen
namespace Go.Proofs.YtafbdbefmlgioaaGreatDoor
open Go.ChangeShapes Go.WideShapes Go.ChangeAt Go.RowKit Go.Joins Go.Deep
set_option linter.unusedVariables false
set_option linter.unusedSimpArgs false

section
variable {H : Type} {enc : TypeId × Value → H} {P : Program} {w : World} {base : Nat} {spare : Nat → Bool} {held : Bool}
theorem u8_bd {n : Int} (h : (Lit.int .u8 n).wf = true) : 0 ≤ n ∧ n ≤ 255 := by
  simp only [Lit.wf, Bool.and_eq_true, decide_eq_true_eq] at h
  exact h
theorem open_bytes_seq {t e : TypeId} {a : Option Addr} {len cap : Nat} {d : DataW H} {p : List MemPlace} (ht : P.underlying t = some (.slice e)) (he : P.underlying e = some (.int .u8)) (hc : P.cellsOf e = 1)
    (h : DataW.Trod enc P w base (fun _ => true) held t (.slice a len cap) d p) : ∃ xs, Bs w w.heap.size a len xs := by
  obtain ⟨fuel, hf⟩ := h
  rcases open_ints ht he hc hf with ⟨hcs, _⟩ | ⟨x, l, c, zs, hcs, _, hl, hm, hz, _, hcell, hwz⟩
  · simp [Value.cells] at hcs
    obtain ⟨rfl, rfl, rfl⟩ := hcs
    exact ⟨[], rfl, by simp [maxLen], by simp, fun i x h => by simp at h⟩
  · simp [Value.cells] at hcs
    obtain ⟨rfl, rfl, rfl⟩ := hcs
    simp at hz
    have hcell' : ∀ i, i < zs.length → w.cell? (x.add i) = some (.int .u8 (zs.getD i 0)) := hcell
    refine ⟨zs.take len, by simp; omega, Nat.le_trans hl hm, fun n hn => ?_, fun i y hy => ?_⟩
    · have := hwz n (List.mem_of_mem_take hn)
      exact u8_bd this
    · obtain ⟨hi, hy'⟩ := List.getElem?_eq_some_iff.1 hy
      have hi' : i < len := by simp at hi; omega
      obtain ⟨b, off, rfl, hc'⟩ := ints_at hcell' (by omega)
      refine ⟨b, off, rfl, cell_lt (hc' 0 (by omega)), fun j v hv => ?_⟩
      cases j with
      | succ j => simp at hv
      | zero =>
        simp at hv
        subst hv
        rw [Nat.mul_one, Nat.add_zero, hc' i (by omega)]
        simp at hy'
        simp [List.getD_eq_getElem?_getD, List.getElem?_eq_getElem (show i < zs.length by omega), hy']
end

end Go.Proofs.YtafbdbefmlgioaaGreatDoor
