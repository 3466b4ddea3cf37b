/- Events: the program says which are right. -/
import Derived.Test.YtjkcfjhjbjcfcaaDoorEvI1
import Derived.Test.YtjkcfjhjbjcfcaaDoorEvI2
import Derived.Test.YtjkcfjhjbjcfcaaDoorEvN
import Derived.Test.YtjkcfjhjbjcfcaaDoorWords
namespace Go.Proofs.YtjkcfjhjbjcfcaaDoor
open Go.RowKit
set_option linter.unusedVariables false
set_option linter.unusedSimpArgs false

set_option maxRecDepth 100000 in
set_option maxHeartbeats 1600000 in
theorem evOk_impl (k key ch too amt fee : Int) (yes : Bool) (w : World) : Calls Tryd.prog 47 #[.agg #[.int .i64 k, .int .i64 key, .int .i64 ch, .int .i64 too, .int .i64 amt, .int .i64 fee, .bool yes]] w fun e w' => e = .returned (.bool (evOk k key ch too amt fee yes)) ∧ Below w.heap.size w w' := by
  rcases (show k = 1 ∨ k = 2 ∨ k = 3 ∨ k = 4 ∨ k = 5 ∨ k = 6 ∨ k = 7 ∨ k = 8 ∨ k = 9 ∨ k = 10 ∨ k = 11 ∨ (k ≠ 1 ∧ k ≠ 2 ∧ k ≠ 3 ∧ k ≠ 4 ∧ k ≠ 5 ∧ k ≠ 6 ∧ k ≠ 7 ∧ k ≠ 8 ∧ k ≠ 9 ∧ k ≠ 10 ∧ k ≠ 11) by omega) with rfl | rfl | rfl | rfl | rfl | rfl | rfl | rfl | rfl | rfl | rfl | ⟨g1, g2, g3, g4, g5, g6, g7, g8, g9, g10, g11⟩
  · exact evOk_impl1 key ch too amt fee yes w
  · exact evOk_impl2 key ch too amt fee yes w
  · exact evOk_impl3 key ch too amt fee yes w
  · exact evOk_impl4 key ch too amt fee yes w
  · exact evOk_impl5 key ch too amt fee yes w
  · exact evOk_impl6 key ch too amt fee yes w
  · exact evOk_impl7 key ch too amt fee yes w
  · exact evOk_impl8 key ch too amt fee yes w
  · exact evOk_impl9 key ch too amt fee yes w
  · exact evOk_impl10 key ch too amt fee yes w
  · exact evOk_impl11 key ch too amt fee yes w
  · have hr : Hid (evOk k key ch too amt fee yes = false) := by unfold Hid evOk; rw [decide_eq_false (by omega)]; rfl
    go_enter Tryd.func47, Tryd.ntmps47
    go_wp2_with (((first | (go_at_call 36; refine (amtOk_impl _ _).mono ?_) | (go_at_call 59; refine (isChan_impl _ _).mono ?_) | (go_at_call 60; refine (isKey_impl _ _).mono ?_)); rintro e w1 ⟨rfl, rfl⟩))
    all_goals
      go_ret
      exact ⟨by rw [hr.out]; rfl, by (repeat (first | (with_reducible exact Below.refl _ _) | (with_reducible assumption) | (with_reducible refine Below.setCell ?_ ?side _; case side => first | (with_reducible exact Nat.le_refl _) | (simp; done) | (simp only [World.size_alloc, World.size_setCell, World.size_drew, World.heap_drewN] at *; omega)) | (with_reducible refine below_alloc ?_ _) | (with_reducible refine Below.drew ?_) | (with_reducible refine below_drewN ?_) | (with_reducible refine below_via (by assumption) ?_)))⟩

/-- the powers of ten, and the greatest length of a text that is sought -/
structure PM (w : World) : Prop where
  pow : Pow w
  mx : ∃ m, w.cell? ⟨0, 0, none⟩ = some (.int .i64 m)
theorem PM.keep {w w' : World} (h : PM w) (hb : Below w.heap.size w w') : PM w' := by
  obtain ⟨a, ⟨m, h3⟩⟩ := h
  exact ⟨a.keep hb, ⟨_, keep_cell h3 hb⟩⟩
theorem evWords_words : words [32, 100, 101, 112, 111, 115, 105, 116, 32, 111, 112, 101, 110, 32, 99, 108, 111, 115, 101, 32, 112, 114, 105, 99, 101, 32, 97, 100, 109, 105, 116, 32, 102, 117, 108, 102, 105, 108, 108, 32, 102, 97, 105, 108, 32, 116, 105, 99, 107, 32, 108, 97, 117, 110, 99, 104, 32, 97, 114, 114, 105, 118, 101, 32, 108, 111, 115, 116] = evWords := by decide +kernel
theorem splitWords (w : World) (mx : ∃ m, w.cell? ⟨0, 0, none⟩ = some (.int .i64 m)) : Calls Tryd.prog 13 #[.string ⟨#[32, 100, 101, 112, 111, 115, 105, 116, 32, 111, 112, 101, 110, 32, 99, 108, 111, 115, 101, 32, 112, 114, 105, 99, 101, 32, 97, 100, 109, 105, 116, 32, 102, 117, 108, 102, 105, 108, 108, 32, 102, 97, 105, 108, 32, 116, 105, 99, 107, 32, 108, 97, 117, 110, 99, 104, 32, 97, 114, 114, 105, 118, 101, 32, 108, 111, 115, 116]⟩, .string ⟨#[32]⟩] w fun e w' =>
    (∃ g off c, e = .returned (.slice (some ⟨g, off, none⟩) 12 c) ∧ ∀ n : Nat, n < 12 → w'.cell? ⟨g, off + n, none⟩ = some (.string (S (evWord n)))) ∧ Below w.heap.size w w' := by
  refine (split_mx _ (by decide) w mx).mono ?_
  rintro e w' ⟨⟨v, rfl, hown⟩, b⟩
  obtain ⟨a, c, rfl, ho⟩ := OwnF.of (ok := fun _ => True) hown (fun _ _ => trivial)
  have F := OF.fs lenS ho
  have e : (words (ByteArray.data ⟨#[32, 100, 101, 112, 111, 115, 105, 116, 32, 111, 112, 101, 110, 32, 99, 108, 111, 115, 101, 32, 112, 114, 105, 99, 101, 32, 97, 100, 109, 105, 116, 32, 102, 117, 108, 102, 105, 108, 108, 32, 102, 97, 105, 108, 32, 116, 105, 99, 107, 32, 108, 97, 117, 110, 99, 104, 32, 97, 114, 114, 105, 118, 101, 32, 108, 111, 115, 116]⟩).toList).map S = evWords.map S := congrArg (List.map S) evWords_words
  rw [e] at F ho
  have hl : (evWords.map S).length = 12 := rfl
  rw [hl] at F
  obtain ⟨bk, off, x, ea, hb, hc, -⟩ := F.at_ (k := 0) (by omega)
  subst ea
  refine ⟨⟨bk, off, c, by rw [e, hl], fun n hn => ?_⟩, b⟩
  obtain ⟨b2, o2, e2, -, hc2⟩ := F.2.2.2 n _ (evWord_get n hn)
  injection e2 with e2
  injection e2 with q1 q2
  subst q1
  subst q2
  have := hc2 0 _ rfl
  rw [show off + n * 1 + 0 = off + n by omega] at this
  exact this

end Go.Proofs.YtjkcfjhjbjcfcaaDoor
