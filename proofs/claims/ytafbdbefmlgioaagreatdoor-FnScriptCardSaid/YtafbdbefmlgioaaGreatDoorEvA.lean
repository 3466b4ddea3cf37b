/- Events: which fields they have. -/
import Derived.Test.YtafbdbefmlgioaaGreatDoorOwn
import Derived.Test.YtafbdbefmlgioaaGreatDoorAdd
namespace Go.Proofs.YtafbdbefmlgioaaGreatDoor
open Go.RowKit
set_option linter.unusedVariables false
set_option linter.unusedSimpArgs false

/-- which fields a kind has -/
def hasF (k : Int) : List Bool :=
  if k = 1 then [false, false, false, true, false, false] else if k = 2 ∨ k = 4 then [false, true, false, true, true, false] else if k = 3 then [false, true, false, false, true, false] else if k = 5 then [true, true, true, true, false, true] else if k = 9 then [true, true, true, true, true, false] else if k = 8 then [false, false, false, false, false, false] else [true, false, false, false, false, false]
theorem hasF_len (k : Int) : (hasF k).length = 6 := by unfold hasF; repeat' split
                                                       all_goals rfl
def fld (h : Bool) (n lo hi : Int) : Bool := if h = true then decide (lo ≤ n ∧ n ≤ hi) else decide (n = 0)
def evOk (k key ch too amt fee : Int) (yes : Bool) : Bool :=
  decide (1 ≤ k ∧ k ≤ 11) && (match hasF k with
    | [h0, h1, h2, h3, h4, h5] => fld h0 key 1 1000000 && fld h1 ch 1 99 && fld h2 too 1 99 && !(h2 && decide (ch = too)) && fld h3 amt (if k = 4 then 0 else 1) 1125899906842624 && fld h4 fee 0 (if k = 4 then 1000000 else 1125899906842624) && (h5 || !yes)
    | _ => false)

theorem field_any (h : Bool) (n lo hi : Int) (w : World) : Calls Tryz.prog 145 #[.bool h, .int .i64 n, .int .i64 lo, .int .i64 hi] w fun e w' => e = .returned (.bool (fld h n lo hi)) ∧ w = w' := by
  cases h
  · go_enter Tryz.func145, Tryz.ntmps145
    go_wp2
    all_goals
      go_ret
      exact ⟨ret_bool (by first | rfl | (simp [fld]; done) | (simp_all [fld]; done)), rfl⟩
  · go_enter Tryz.func145, Tryz.ntmps145
    go_wp2
    all_goals
      go_ret
      exact ⟨ret_bool (by simp_all [fld] <;> omega), rfl⟩

abbrev BoS := FS (fun (x : Bool) => [Value.bool x]) 1 (fun _ => True)
theorem BoS.lit (w : World) (xs : List Bool) (cs : Array Value) (t : TypeId) (h : cs.toList = xs.map Value.bool) (hn : xs.length = 6) (g : Nat) (hg : w.heap.size = g) :
    BoS (w.alloc (.cells cs t)) (w.alloc (.cells cs t)).heap.size (some ⟨g, 0, none⟩) 6 xs := by
  subst hg
  refine ⟨hn, by simp [maxLen], by simp, fun i x hx => ⟨w.heap.size, 0, rfl, by simp, fun j v hv => ?_⟩⟩
  match j, hv with
  | 0, hv =>
    simp at hv
    subst hv
    rw [show 0 + i * 1 + 0 = i by omega, World.cell?_alloc_at _ _ _ _ rfl]
    have : cs[i]? = (cs.toList)[i]? := by simp
    rw [this, h, List.getElem?_map, hx]
    rfl
  | j + 1, hv => simp at hv

set_option maxHeartbeats 1600000 in
theorem l04Has_any (k : Int) (w : World) : Calls Tryz.prog 113 #[.int .i64 k] w fun e w' => (∃ g, e = .returned (.slice (some ⟨g, 0, none⟩) 6 6) ∧ BoS w' w'.heap.size (some ⟨g, 0, none⟩) 6 (hasF k)) ∧ Below w.heap.size w w' := by
  rcases (show k = 1 ∨ k = 2 ∨ k = 4 ∨ k = 3 ∨ k = 5 ∨ k = 9 ∨ k = 8 ∨ (k ≠ 1 ∧ k ≠ 2 ∧ k ≠ 4 ∧ k ≠ 3 ∧ k ≠ 5 ∧ k ≠ 9 ∧ k ≠ 8) by omega) with rfl | rfl | rfl | rfl | rfl | rfl | rfl | ⟨h1, h2, h4, h3, h5, h9, h8⟩
  iterate 7
    · go_enter Tryz.func113, Tryz.ntmps113
      go_wp2
      refine bodyPost_ret (by simp only [results, Tryz.results113]; go_simp; rfl) rfl ?_
      exact ⟨⟨_, rfl, BoS.lit _ _ _ _ rfl rfl _ rfl⟩, by (repeat (first | (with_reducible exact Below.refl _ _) | (with_reducible assumption) | (with_reducible refine Below.setCell ?_ ?side _; case side => first | (with_reducible exact Nat.le_refl _) | (simp; done) | (simp only [World.size_alloc, World.size_setCell, World.size_drew, World.heap_drewN] at *; omega)) | (with_reducible refine below_alloc ?_ _) | (with_reducible refine Below.drew ?_) | (with_reducible refine below_drewN ?_) | (with_reducible refine below_via (by assumption) ?_)))⟩
  · have e : hasF k = [true, false, false, false, false, false] := by unfold hasF; rw [if_neg h1, if_neg (by omega), if_neg h3, if_neg h5, if_neg h9, if_neg h8]
    rw [e]
    go_enter Tryz.func113, Tryz.ntmps113
    go_wp2
    refine bodyPost_ret (by simp only [results, Tryz.results113]; go_simp; rfl) rfl ?_
    exact ⟨⟨_, rfl, BoS.lit _ _ _ _ rfl rfl _ rfl⟩, by (repeat (first | (with_reducible exact Below.refl _ _) | (with_reducible assumption) | (with_reducible refine Below.setCell ?_ ?side _; case side => first | (with_reducible exact Nat.le_refl _) | (simp; done) | (simp only [World.size_alloc, World.size_setCell, World.size_drew, World.heap_drewN] at *; omega)) | (with_reducible refine below_alloc ?_ _) | (with_reducible refine Below.drew ?_) | (with_reducible refine below_drewN ?_) | (with_reducible refine below_via (by assumption) ?_)))⟩

theorem evOk_k1 (key ch too amt fee : Int) (yes : Bool) : evOk 1 key ch too amt fee yes = decide (key = 0 ∧ ch = 0 ∧ too = 0 ∧ (1 ≤ amt ∧ amt ≤ 1125899906842624) ∧ fee = 0 ∧ yes = false) := by
  rw [Bool.eq_iff_iff]
  cases yes <;> simp [evOk, hasF, fld, and_assoc] <;> omega

theorem evOk_k2 (key ch too amt fee : Int) (yes : Bool) : evOk 2 key ch too amt fee yes = decide (key = 0 ∧ (1 ≤ ch ∧ ch ≤ 99) ∧ too = 0 ∧ (1 ≤ amt ∧ amt ≤ 1125899906842624) ∧ (0 ≤ fee ∧ fee ≤ 1125899906842624) ∧ yes = false) := by
  rw [Bool.eq_iff_iff]
  cases yes <;> simp [evOk, hasF, fld, and_assoc] <;> omega

theorem evOk_k3 (key ch too amt fee : Int) (yes : Bool) : evOk 3 key ch too amt fee yes = decide (key = 0 ∧ (1 ≤ ch ∧ ch ≤ 99) ∧ too = 0 ∧ amt = 0 ∧ (0 ≤ fee ∧ fee ≤ 1125899906842624) ∧ yes = false) := by
  rw [Bool.eq_iff_iff]
  cases yes <;> simp [evOk, hasF, fld, and_assoc] <;> omega

theorem evOk_k4 (key ch too amt fee : Int) (yes : Bool) : evOk 4 key ch too amt fee yes = decide (key = 0 ∧ (1 ≤ ch ∧ ch ≤ 99) ∧ too = 0 ∧ (0 ≤ amt ∧ amt ≤ 1125899906842624) ∧ (0 ≤ fee ∧ fee ≤ 1000000) ∧ yes = false) := by
  rw [Bool.eq_iff_iff]
  cases yes <;> simp [evOk, hasF, fld, and_assoc] <;> omega

theorem evOk_k5 (key ch too amt fee : Int) (yes : Bool) : evOk 5 key ch too amt fee yes = decide ((1 ≤ key ∧ key ≤ 1000000) ∧ (1 ≤ ch ∧ ch ≤ 99) ∧ (1 ≤ too ∧ too ≤ 99) ∧ (1 ≤ amt ∧ amt ≤ 1125899906842624) ∧ fee = 0 ∧ ch ≠ too) := by
  rw [Bool.eq_iff_iff]
  cases yes <;> simp [evOk, hasF, fld, and_assoc] <;> omega

theorem evOk_k6 (key ch too amt fee : Int) (yes : Bool) : evOk 6 key ch too amt fee yes = decide ((1 ≤ key ∧ key ≤ 1000000) ∧ ch = 0 ∧ too = 0 ∧ amt = 0 ∧ fee = 0 ∧ yes = false) := by
  rw [Bool.eq_iff_iff]
  cases yes <;> simp [evOk, hasF, fld, and_assoc] <;> omega

theorem evOk_k7 (key ch too amt fee : Int) (yes : Bool) : evOk 7 key ch too amt fee yes = decide ((1 ≤ key ∧ key ≤ 1000000) ∧ ch = 0 ∧ too = 0 ∧ amt = 0 ∧ fee = 0 ∧ yes = false) := by
  rw [Bool.eq_iff_iff]
  cases yes <;> simp [evOk, hasF, fld, and_assoc] <;> omega

theorem evOk_k8 (key ch too amt fee : Int) (yes : Bool) : evOk 8 key ch too amt fee yes = decide (key = 0 ∧ ch = 0 ∧ too = 0 ∧ amt = 0 ∧ fee = 0 ∧ yes = false) := by
  rw [Bool.eq_iff_iff]
  cases yes <;> simp [evOk, hasF, fld, and_assoc] <;> omega

theorem evOk_k9 (key ch too amt fee : Int) (yes : Bool) : evOk 9 key ch too amt fee yes = decide ((1 ≤ key ∧ key ≤ 1000000) ∧ (1 ≤ ch ∧ ch ≤ 99) ∧ (1 ≤ too ∧ too ≤ 99) ∧ (1 ≤ amt ∧ amt ≤ 1125899906842624) ∧ (0 ≤ fee ∧ fee ≤ 1125899906842624) ∧ ch ≠ too ∧ yes = false) := by
  rw [Bool.eq_iff_iff]
  cases yes <;> simp [evOk, hasF, fld, and_assoc] <;> omega

theorem evOk_k10 (key ch too amt fee : Int) (yes : Bool) : evOk 10 key ch too amt fee yes = decide ((1 ≤ key ∧ key ≤ 1000000) ∧ ch = 0 ∧ too = 0 ∧ amt = 0 ∧ fee = 0 ∧ yes = false) := by
  rw [Bool.eq_iff_iff]
  cases yes <;> simp [evOk, hasF, fld, and_assoc] <;> omega

theorem evOk_k11 (key ch too amt fee : Int) (yes : Bool) : evOk 11 key ch too amt fee yes = decide ((1 ≤ key ∧ key ≤ 1000000) ∧ ch = 0 ∧ too = 0 ∧ amt = 0 ∧ fee = 0 ∧ yes = false) := by
  rw [Bool.eq_iff_iff]
  cases yes <;> simp [evOk, hasF, fld, and_assoc] <;> omega

end Go.Proofs.YtafbdbefmlgioaaGreatDoor
