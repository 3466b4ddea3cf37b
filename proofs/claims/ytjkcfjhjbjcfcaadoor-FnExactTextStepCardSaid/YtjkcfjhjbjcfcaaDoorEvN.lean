/- Events: where the numbers lie. -/
import Derived.Test.YtjkcfjhjbjcfcaaDoorEvS
import Derived.Test.YtjkcfjhjbjcfcaaDoorEvT
namespace Go.Proofs.YtjkcfjhjbjcfcaaDoor
open Go.RowKit
set_option linter.unusedVariables false
set_option linter.unusedSimpArgs false

abbrev PtS (g : Nat) := FS (fun (j : Nat) => [Value.pointer (some ⟨g, j, none⟩)]) 1 (fun _ => True)
set_option maxHeartbeats 1600000 in
theorem numbers_impl (k : Int) (g : Nat) (w : World) (hc : w.cell? ⟨g, 0, none⟩ = some (.int .i64 k)) (hg : g < w.heap.size) : Calls Tryd.prog 33 #[.pointer (some ⟨g, 0, none⟩)] w fun e w' => (∃ a, e = .returned (.slice a (sel (hasF k) [1, 2, 3, 4, 5]).length (sel (hasF k) [1, 2, 3, 4, 5]).length) ∧ PtS g w' w'.heap.size a (sel (hasF k) [1, 2, 3, 4, 5]).length (sel (hasF k) [1, 2, 3, 4, 5]) ∧ ∀ b o, a = some ⟨b, o, none⟩ → w.heap.size ≤ b) ∧ Below w.heap.size w w' := by
  rcases (show k = 1 ∨ k = 2 ∨ k = 4 ∨ k = 3 ∨ k = 5 ∨ k = 9 ∨ k = 8 ∨ (k ≠ 1 ∧ k ≠ 2 ∧ k ≠ 4 ∧ k ≠ 3 ∧ k ≠ 5 ∧ k ≠ 9 ∧ k ≠ 8) by omega) with rfl | rfl | rfl | rfl | rfl | rfl | rfl | ⟨h1, h2, h4, h3, h5, h9, h8⟩
  iterate 6
    · go_enter Tryd.func33, Tryd.ntmps33
      go_wp2
      all_goals (try (go_region; all_goals go_wp2))
      all_goals
        refine bodyPost_ret (by simp only [results, Tryd.results33]; go_simp; rfl) rfl ?_
        exact ⟨⟨_, rfl, FS.lit1 (fun j => Value.pointer (some ⟨g, j, none⟩)) _ _ _ _ rfl _ rfl (by decide) _ rfl, fun b o h => by injection h with h; injection h with h; rw [← h]; (first | exact Nat.le_refl _ | simp)⟩, by (repeat (first | (with_reducible exact Below.refl _ _) | (with_reducible assumption) | (with_reducible refine Below.setCell ?_ ?side _; case side => first | (with_reducible exact Nat.le_refl _) | (simp; done) | (simp only [World.size_alloc, World.size_setCell, World.size_drew, World.heap_drewN] at *; omega)) | (with_reducible refine below_alloc ?_ _) | (with_reducible refine Below.drew ?_) | (with_reducible refine below_drewN ?_) | (with_reducible refine below_via (by assumption) ?_)))⟩
  · go_enter Tryd.func33, Tryd.ntmps33
    go_wp2
    refine bodyPost_ret (by simp only [results, Tryd.results33]; go_simp; rfl) rfl ?_
    exact ⟨⟨_, rfl, FS.nil _ _ _, fun b o h => by cases h⟩, by (repeat (first | (with_reducible exact Below.refl _ _) | (with_reducible assumption) | (with_reducible refine Below.setCell ?_ ?side _; case side => first | (with_reducible exact Nat.le_refl _) | (simp; done) | (simp only [World.size_alloc, World.size_setCell, World.size_drew, World.heap_drewN] at *; omega)) | (with_reducible refine below_alloc ?_ _) | (with_reducible refine Below.drew ?_) | (with_reducible refine below_drewN ?_) | (with_reducible refine below_via (by assumption) ?_)))⟩
  · have e : hasF k = [true, false, false, false, false, false] := by unfold hasF; rw [if_neg h1, if_neg (by omega), if_neg h3, if_neg h5, if_neg h9, if_neg h8]
    rw [e]
    go_enter Tryd.func33, Tryd.ntmps33
    go_wp2
    refine bodyPost_ret (by simp only [results, Tryd.results33]; go_simp; rfl) rfl ?_
    exact ⟨⟨_, rfl, FS.lit1 (fun j => Value.pointer (some ⟨g, j, none⟩)) _ _ _ _ rfl _ rfl (by decide) _ rfl, fun b o h => by injection h with h; injection h with h; rw [← h]; (first | exact Nat.le_refl _ | simp)⟩, by (repeat (first | (with_reducible exact Below.refl _ _) | (with_reducible assumption) | (with_reducible refine Below.setCell ?_ ?side _; case side => first | (with_reducible exact Nat.le_refl _) | (simp; done) | (simp only [World.size_alloc, World.size_setCell, World.size_drew, World.heap_drewN] at *; omega)) | (with_reducible refine below_alloc ?_ _) | (with_reducible refine Below.drew ?_) | (with_reducible refine below_drewN ?_) | (with_reducible refine below_via (by assumption) ?_)))⟩

end Go.Proofs.YtjkcfjhjbjcfcaaDoor
