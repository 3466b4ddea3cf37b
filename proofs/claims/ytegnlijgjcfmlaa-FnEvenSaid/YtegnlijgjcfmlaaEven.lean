/- Even parts. -/
import Derived.Test.YtegnlijgjcfmlaaIntsW
import Derived.Test.YtegnlijgjcfmlaaAdd
namespace Go.Proofs.Ytegnlijgjcfmlaa
open Go.RowKit
set_option linter.unusedVariables false
set_option linter.unusedSimpArgs false

def evenOk (m n : Int) : Bool := amtOk m && inB n 1 40
theorem evenOk_t {m n : Int} (h : evenOk m n = true) : (0 ≤ m ∧ m ≤ 1125899906842624) ∧ 1 ≤ n ∧ n ≤ 40 := by simpa [evenOk, amtOk, inB] using h
def evenPart (m n : Int) (i : Nat) : Int := m / n + if (i : Int) < m % n then 1 else 0
def evenL (m n : Int) (k : Nat) : List Int := (List.range k).map (evenPart m n)
def evens (m n : Int) : List Int := if evenOk m n = true then evenL m n n.toNat else []
theorem evenL_snoc (m n : Int) (k : Nat) : evenL m n (k + 1) = evenL m n k ++ [evenPart m n k] := by simp [evenL, List.range_succ]
theorem evenL_len (m n : Int) (k : Nat) : (evenL m n k).length = k := by simp [evenL]
theorem evenPart_bd {m n : Int} (h : evenOk m n = true) (i : Nat) : 0 ≤ evenPart m n i ∧ evenPart m n i ≤ 1125899906842625 := by
  have hb := evenOk_t h
  have h1 : 0 ≤ m / n := Int.ediv_nonneg hb.1.1 (by omega)
  have h2 : m / n ≤ m := Int.ediv_le_self n hb.1.1
  unfold evenPart
  split <;> omega
theorem evens_bd (m n : Int) : ∀ x ∈ evens m n, -9223372036854775808 ≤ x ∧ x ≤ 9223372036854775807 := by
  intro x hx
  unfold evens at hx
  split at hx
  · rename_i h
    simp only [evenL, List.mem_map, List.mem_range] at hx
    obtain ⟨i, _, rfl⟩ := hx
    have := evenPart_bd h i
    omega
  · simp at hx
theorem evens_len (m n : Int) : (evens m n).length ≤ 40 := by
  unfold evens
  split
  · rename_i h
    have := evenOk_t h
    rw [evenL_len]; omega
  · simp

set_option maxHeartbeats 1600000 in
theorem splitEven_impl (m n : Int) (w : World) : Calls Try.prog 10 #[.int .i64 m, .int .i64 n] w fun e w' =>
    (∃ a c, e = .returned (.tuple #[.slice a (evens m n).length c, .bool (evenOk m n)]) ∧ OI w' w.heap.size a (evens m n).length c (evens m n)) ∧ Below w.heap.size w w' := by
  by_cases h : evenOk m n = true
  · have hb := evenOk_t h
    have hq0 : 0 ≤ m / n := Int.ediv_nonneg hb.1.1 (by omega)
    have hq1 : m / n ≤ 1125899906842624 := Int.le_trans (Int.ediv_le_self n hb.1.1) hb.1.2
    have hr0 : 0 ≤ m % n := Int.emod_nonneg m (by omega)
    have h1 : amtOk m = true := decide_eq_true (by omega)
    have h2 : inB n 1 40 = true := decide_eq_true (by omega)
    have He : Hid (evens m n = evenL m n n.toNat) := if_pos h
    have Hw := Lib.hid (evens_bd m n)
    go_enter Try.func10, Try.ntmps10
    go_wp2_with (((first | (go_at_call 45; refine (amtOk_impl _ _).mono ?_) | (go_at_call 46; refine (in_impl _ _ _ _).mono ?_)); rintro e w1 ⟨rfl, rfl⟩))
    go_loopw [6, 7, 8, 18] (fun v _ _ i wr => ∃ k : Nat, k ≤ n ∧ i = .int .i64 k ∧ OwnI wr w.heap.size v (evenL m n k) ∧ Below w.heap.size w wr) (fun _ _ _ i _ => (n - intOf i).toNat)
    case atStart => exact ⟨0, by omega, rfl, OwnI.nil _ _, Below.refl _ _⟩
    case round =>
      obtain ⟨k, hk, rfl, hown, hB⟩ := hrel
      have hlenk : (evenL m n k).length ≤ 1099511627776 := by rw [evenL_len]; omega
      by_cases hlt : (k : Int) < n
      · by_cases hrem : (k : Int) < m % n
        · have e1 : Hid (evenL m n (k + 1) = evenL m n k ++ [m / n + 1]) := by unfold Hid; rw [evenL_snoc]; simp [evenPart, hrem]
          go_wp2_with (at_builtin; refine wpList_append_int rfl _ _ rfl w.heap.size _ _ rfl (hown.alloc _) _ _ rfl (new_cell0 _ _ _) hlenk (Nat.le_trans hB.size (size_alloc_le _ _)) ?_)
          intro v' w2 hown2 hB2
          go_wp2
          go_roundw
          case rel => exact ⟨k + 1, by omega, by go_num, by rw [e1.out]; exact hown2, (below_alloc hB _).trans hB2⟩
          case measure => simp [intOf]; omega
        · have e1 : Hid (evenL m n (k + 1) = evenL m n k ++ [m / n]) := by unfold Hid; rw [evenL_snoc]; simp [evenPart, hrem]
          go_wp2_with (at_builtin; refine wpList_append_int rfl _ _ rfl w.heap.size _ _ rfl (hown.alloc _) _ _ rfl (new_cell0 _ _ _) hlenk (Nat.le_trans hB.size (size_alloc_le _ _)) ?_)
          intro v' w2 hown2 hB2
          go_wp2
          go_roundw
          case rel => exact ⟨k + 1, by omega, by go_num, by rw [e1.out]; exact hown2, (below_alloc hB _).trans hB2⟩
          case measure => simp [intOf]; omega
      · go_wp2
        go_ret2
        have e2 : n.toNat = k := by omega
        rw [He.out, e2]
        have Hw' := Hw.out
        rw [He.out, e2] at Hw'
        obtain ⟨a, c, hv, ho⟩ := hown.oi Hw'
        subst hv
        exact ⟨⟨a, c, rfl, ho⟩, hB⟩
  · have He : evens m n = [] := if_neg h
    rw [He]
    have Hn : Hid (evenOk m n = false) := Bool.eq_false_iff.2 h
    by_cases h1 : amtOk m = true
    · have h2 : inB n 1 40 = false := by simpa [evenOk, h1] using h
      go_enter Try.func10, Try.ntmps10
      go_wp2_with (((first | (go_at_call 45; refine (amtOk_impl _ _).mono ?_) | (go_at_call 46; refine (in_impl _ _ _ _).mono ?_)); rintro e w1 ⟨rfl, rfl⟩))
      all_goals
        go_ret2
        exact ⟨⟨none, 0, by first | rfl | (rw [Hn.out]; rfl), OwnI.nil _ _, rfl, by simp⟩, by (repeat (first | (with_reducible exact Below.refl _ _) | (with_reducible assumption) | (with_reducible refine Below.setCell ?_ ?side _; case side => first | (with_reducible exact Nat.le_refl _) | (simp; done) | (simp only [World.size_alloc, World.size_setCell, World.size_drew, World.heap_drewN] at *; omega)) | (with_reducible refine below_alloc ?_ _) | (with_reducible refine Below.drew ?_) | (with_reducible refine below_drewN ?_) | (with_reducible refine below_via (by assumption) ?_)))⟩
    · go_enter Try.func10, Try.ntmps10
      go_wp2_with (((first | (go_at_call 45; refine (amtOk_impl _ _).mono ?_) | (go_at_call 46; refine (in_impl _ _ _ _).mono ?_)); rintro e w1 ⟨rfl, rfl⟩))
      go_ret2
      exact ⟨⟨none, 0, by first | rfl | (rw [Hn.out]; rfl), OwnI.nil _ _, rfl, by simp⟩, by (repeat (first | (with_reducible exact Below.refl _ _) | (with_reducible assumption) | (with_reducible refine Below.setCell ?_ ?side _; case side => first | (with_reducible exact Nat.le_refl _) | (simp; done) | (simp only [World.size_alloc, World.size_setCell, World.size_drew, World.heap_drewN] at *; omega)) | (with_reducible refine below_alloc ?_ _) | (with_reducible refine Below.drew ?_) | (with_reducible refine below_drewN ?_) | (with_reducible refine below_via (by assumption) ?_)))⟩

set_option maxHeartbeats 1600000 in
theorem splitEven_spec (m n : Int) (w : World) : Calls Try.prog 11 #[.int .i64 m, .int .i64 n] w fun e w' =>
    (∃ a c, e = .returned (.tuple #[.slice a (evens m n).length c, .bool (evenOk m n)]) ∧ OI w' w.heap.size a (evens m n).length c (evens m n)) ∧ Below w.heap.size w w' := by
  by_cases h : evenOk m n = true
  · have hb := evenOk_t h
    have hq0 : 0 ≤ m / n := Int.ediv_nonneg hb.1.1 (by omega)
    have hq1 : m / n ≤ 1125899906842624 := Int.le_trans (Int.ediv_le_self n hb.1.1) hb.1.2
    have hr0 : 0 ≤ m % n := Int.emod_nonneg m (by omega)
    have h1 : amtOk m = true := decide_eq_true (by omega)
    have h2 : inB n 1 40 = true := decide_eq_true (by omega)
    have He : Hid (evens m n = evenL m n n.toNat) := if_pos h
    have Hw := Lib.hid (evens_bd m n)
    go_enter Try.func11, Try.ntmps11
    go_wp2_with (((go_at_call 47; refine (amtOk_spec _ _).mono ?_); rintro e w1 ⟨rfl, rfl⟩))
    go_loopw [6, 7, 8] (fun v i _ wr => ∃ k : Nat, k ≤ n ∧ i = .int .i64 k ∧ OwnI wr w.heap.size v (evenL m n k) ∧ Below w.heap.size w wr) (fun _ i _ _ => (n - intOf i).toNat)
    case atStart => exact ⟨0, by omega, rfl, OwnI.made _ _ (Nat.le_refl _), below_alloc (Below.refl _ _) _⟩
    case round =>
      obtain ⟨k, hk, rfl, hown, hB⟩ := hrel
      have hlenk : (evenL m n k).length ≤ 1099511627776 := by rw [evenL_len]; omega
      by_cases hlt : (k : Int) < n
      · by_cases hrem : (k : Int) < m % n
        · have e1 : Hid (evenL m n (k + 1) = evenL m n k ++ [m / n + 1]) := by unfold Hid; rw [evenL_snoc]; simp [evenPart, hrem]
          go_wp2_with (at_builtin; refine wpList_append_int rfl _ _ rfl w.heap.size _ _ rfl (hown.alloc _) _ _ rfl (new_cell0 _ _ _) hlenk (Nat.le_trans hB.size (size_alloc_le _ _)) ?_)
          intro v' w2 hown2 hB2
          go_wp2
          go_roundw
          case rel => exact ⟨k + 1, by omega, by go_num, by rw [e1.out]; exact hown2, (below_alloc hB _).trans hB2⟩
          case measure => simp [intOf]; omega
        · have e1 : Hid (evenL m n (k + 1) = evenL m n k ++ [m / n]) := by unfold Hid; rw [evenL_snoc]; simp [evenPart, hrem]
          go_wp2_with (at_builtin; refine wpList_append_int rfl _ _ rfl w.heap.size _ _ rfl (hown.alloc _) _ _ rfl (new_cell0 _ _ _) hlenk (Nat.le_trans hB.size (size_alloc_le _ _)) ?_)
          intro v' w2 hown2 hB2
          go_wp2
          go_roundw
          case rel => exact ⟨k + 1, by omega, by go_num, by rw [e1.out]; exact hown2, (below_alloc hB _).trans hB2⟩
          case measure => simp [intOf]; omega
      · go_wp2
        go_ret2
        have e2 : n.toNat = k := by omega
        rw [He.out, e2]
        have Hw' := Hw.out
        rw [He.out, e2] at Hw'
        obtain ⟨a, c, hv, ho⟩ := hown.oi Hw'
        subst hv
        exact ⟨⟨a, c, rfl, ho⟩, hB⟩
  · have He : evens m n = [] := if_neg h
    rw [He]
    have Hn : Hid (evenOk m n = false) := Bool.eq_false_iff.2 h
    by_cases h1 : amtOk m = true
    · have h2 : inB n 1 40 = false := by simpa [evenOk, h1] using h
      have h3 := inB_f h2
      go_enter Try.func11, Try.ntmps11
      go_wp2_with (((go_at_call 47; refine (amtOk_spec _ _).mono ?_); rintro e w1 ⟨rfl, rfl⟩))
      all_goals
        go_ret2
        exact ⟨⟨none, 0, by first | rfl | (rw [Hn.out]; rfl), OwnI.nil _ _, rfl, by simp⟩, by (repeat (first | (with_reducible exact Below.refl _ _) | (with_reducible assumption) | (with_reducible refine Below.setCell ?_ ?side _; case side => first | (with_reducible exact Nat.le_refl _) | (simp; done) | (simp only [World.size_alloc, World.size_setCell, World.size_drew, World.heap_drewN] at *; omega)) | (with_reducible refine below_alloc ?_ _) | (with_reducible refine Below.drew ?_) | (with_reducible refine below_drewN ?_) | (with_reducible refine below_via (by assumption) ?_)))⟩
    · go_enter Try.func11, Try.ntmps11
      go_wp2_with (((go_at_call 47; refine (amtOk_spec _ _).mono ?_); rintro e w1 ⟨rfl, rfl⟩))
      go_ret2
      exact ⟨⟨none, 0, by first | rfl | (rw [Hn.out]; rfl), OwnI.nil _ _, rfl, by simp⟩, by (repeat (first | (with_reducible exact Below.refl _ _) | (with_reducible assumption) | (with_reducible refine Below.setCell ?_ ?side _; case side => first | (with_reducible exact Nat.le_refl _) | (simp; done) | (simp only [World.size_alloc, World.size_setCell, World.size_drew, World.heap_drewN] at *; omega)) | (with_reducible refine below_alloc ?_ _) | (with_reducible refine Below.drew ?_) | (with_reducible refine below_drewN ?_) | (with_reducible refine below_via (by assumption) ?_)))⟩

end Go.Proofs.Ytegnlijgjcfmlaa
