/- Rules: which are right. -/
import Derived.Test.YtjkcfjhjbjcfcaaDoorAmt
import Derived.Test.YtjkcfjhjbjcfcaaDoorEvP
namespace Go.Proofs.YtjkcfjhjbjcfcaaDoor
open Go.RowKit
set_option linter.unusedVariables false
set_option linter.unusedSimpArgs false

def ruleOk (lo hi st mn mx : Int) : Bool := decide ((0 ≤ lo ∧ lo ≤ 100) ∧ (lo ≤ hi ∧ hi ≤ 100) ∧ (0 ≤ st ∧ st ≤ 1000000) ∧ (0 ≤ mn ∧ mn ≤ 1000000) ∧ (mn ≤ mx ∧ mx ≤ 1000000))
def ruleZ (lo hi st mn mx : Int) : Bool := decide (lo = 0 ∧ hi = 0 ∧ st = 0 ∧ mn = 0 ∧ mx = 0)

theorem isBand_impl (lo hi : Int) (w : World) : Calls Tryd.prog 51 #[.int .i64 lo, .int .i64 hi] w fun e w' => e = .returned (.bool (decide ((0 ≤ lo ∧ lo ≤ 100) ∧ (lo ≤ hi ∧ hi ≤ 100)))) ∧ w = w' := by
  go_enter Tryd.func51, Tryd.ntmps51
  go_wp2_with (((go_at_call 50; refine (in_impl _ _ _ _).mono ?_); rintro e w1 ⟨rfl, rfl⟩))
  all_goals
    go_ret
    exact ⟨ret_bool (by simp_all [inB] <;> omega), rfl⟩

theorem l09Band_spec (lo hi : Int) (w : World) : Calls Tryd.prog 40 #[.int .i64 lo, .int .i64 hi] w fun e w' => e = .returned (.bool (decide ((0 ≤ lo ∧ lo ≤ 100) ∧ (lo ≤ hi ∧ hi ≤ 100)))) ∧ w = w' := by
  go_enter Tryd.func40, Tryd.ntmps40
  go_wp2
  all_goals
    go_ret
    exact ⟨ret_bool (by simp_all <;> omega), rfl⟩

theorem l10Part_spec (n : Int) (w : World) : Calls Tryd.prog 41 #[.int .i64 n] w fun e w' => e = .returned (.bool (decide (0 ≤ n ∧ n ≤ 1000000))) ∧ w = w' := by
  go_enter Tryd.func41, Tryd.ntmps41
  go_wp2
  all_goals
    go_ret
    exact ⟨ret_bool (by simp_all <;> omega), rfl⟩

set_option maxRecDepth 100000 in
theorem noRule_spec (lo hi st mn mx : Int) (w : World) : Calls Tryd.prog 27 #[.agg #[.int .i64 lo, .int .i64 hi, .int .i64 st, .int .i64 mn, .int .i64 mx]] w fun e w' => e = .returned (.bool (ruleZ lo hi st mn mx)) ∧ Below w.heap.size w w' := by
  go_enter Tryd.func27, Tryd.ntmps27
  go_wp2
  all_goals
    go_ret
    exact ⟨ret_bool (by simp_all [ruleZ] <;> omega), by (repeat (first | (with_reducible exact Below.refl _ _) | (with_reducible assumption) | (with_reducible refine Below.setCell ?_ ?side _; case side => first | (with_reducible exact Nat.le_refl _) | (simp; done) | (simp only [World.size_alloc, World.size_setCell, World.size_drew, World.heap_drewN] at *; omega)) | (with_reducible refine below_alloc ?_ _) | (with_reducible refine Below.drew ?_) | (with_reducible refine below_drewN ?_) | (with_reducible refine below_via (by assumption) ?_)))⟩

set_option maxRecDepth 100000 in
set_option maxHeartbeats 1600000 in
theorem ruleOk_impl (lo hi st mn mx : Int) (w : World) : Calls Tryd.prog 38 #[.agg #[.int .i64 lo, .int .i64 hi, .int .i64 st, .int .i64 mn, .int .i64 mx]] w fun e w' => e = .returned (.bool (ruleOk lo hi st mn mx)) ∧ Below w.heap.size w w' := by
  go_enter Tryd.func38, Tryd.ntmps38
  go_wp2_with (((first | (go_at_call 51; refine (isBand_impl _ _ _).mono ?_) | (go_at_call 50; refine (in_impl _ _ _ _).mono ?_)); rintro e w1 ⟨rfl, rfl⟩))
  all_goals
    go_ret
    exact ⟨ret_bool (by simp_all [inB, ruleOk] <;> omega), by (repeat (first | (with_reducible exact Below.refl _ _) | (with_reducible assumption) | (with_reducible refine Below.setCell ?_ ?side _; case side => first | (with_reducible exact Nat.le_refl _) | (simp; done) | (simp only [World.size_alloc, World.size_setCell, World.size_drew, World.heap_drewN] at *; omega)) | (with_reducible refine below_alloc ?_ _) | (with_reducible refine Below.drew ?_) | (with_reducible refine below_drewN ?_) | (with_reducible refine below_via (by assumption) ?_)))⟩

set_option maxRecDepth 100000 in
set_option maxHeartbeats 1600000 in
theorem ruleOk_spec (lo hi st mn mx : Int) (w : World) : Calls Tryd.prog 30 #[.agg #[.int .i64 lo, .int .i64 hi, .int .i64 st, .int .i64 mn, .int .i64 mx]] w fun e w' => e = .returned (.bool (ruleOk lo hi st mn mx)) ∧ Below w.heap.size w w' := by
  go_enter Tryd.func30, Tryd.ntmps30
  go_wp2_with (((first | (go_at_call 40; refine (l09Band_spec _ _ _).mono ?_) | (go_at_call 41; refine (l10Part_spec _ _).mono ?_)); rintro e w1 ⟨rfl, rfl⟩))
  all_goals
    go_ret
    exact ⟨ret_bool (by simp_all [inB, ruleOk] <;> omega), by (repeat (first | (with_reducible exact Below.refl _ _) | (with_reducible assumption) | (with_reducible refine Below.setCell ?_ ?side _; case side => first | (with_reducible exact Nat.le_refl _) | (simp; done) | (simp only [World.size_alloc, World.size_setCell, World.size_drew, World.heap_drewN] at *; omega)) | (with_reducible refine below_alloc ?_ _) | (with_reducible refine Below.drew ?_) | (with_reducible refine below_drewN ?_) | (with_reducible refine below_via (by assumption) ?_)))⟩

def takeB : List UInt8 := [116, 97, 107, 101, 32]
def crashB : List UInt8 := [99, 114, 97, 115, 104]
def turnB : List UInt8 := [116, 117, 114, 110]
def syncB : List UInt8 := [115, 121, 110, 99]
def startB : List UInt8 := [115, 116, 97, 114, 116]
def evZ (k key ch too amt fee : Int) (yes : Bool) : Bool := decide (k = 0 ∧ key = 0 ∧ ch = 0 ∧ too = 0 ∧ amt = 0 ∧ fee = 0 ∧ yes = false)
def stText (kd k key ch too amt fee : Int) (yes : Bool) (xs : List Int) (lo hi st mn mx : Int) : List UInt8 :=
  if (kd ≠ 1 ∧ evZ k key ch too amt fee yes = false) ∨ (kd ≠ 3 ∧ 0 < xs.length) ∨ (kd ≠ 5 ∧ ruleZ lo hi st mn mx = false) then []
  else if kd = 1 then (if evOk k key ch too amt fee yes = true then takeB ++ evText k key ch too amt fee yes else [])
  else if kd = 2 then syncB else if kd = 4 then startB
  else if kd = 3 then (if xs.all amtOk = true then crashB ++ tailT xs else [])
  else if kd = 5 then (if ruleOk lo hi st mn mx = true then turnB ++ tailT [lo, hi, st, mn, mx] else []) else []
theorem str_eq {l l' : List UInt8} (h : l = l') : Ending.returned (.string (S l)) = Ending.returned (.string (S l')) := by rw [h]
theorem evText_bad {k key ch too amt fee : Int} {yes : Bool} (h : evOk k key ch too amt fee yes = false) : evText k key ch too amt fee yes = [] := by unfold evText; rw [h]; rfl
theorem evText_ne {k key ch too amt fee : Int} {yes : Bool} (h : evOk k key ch too amt fee yes = true) : evText k key ch too amt fee yes ≠ [] := by
  have hk := evOk_kind h
  have hw : ∀ n : Nat, n < 12 → 1 ≤ n → evWord (n : Int) ≠ [] := by decide
  unfold evText
  rw [if_pos h]
  intro e
  have e1 := (List.append_eq_nil_iff.1 (List.append_eq_nil_iff.1 e).1).1
  exact hw k.toNat (by omega) (by omega) (by rw [show ((k.toNat : Nat) : Int) = k by omega]; exact e1)

end Go.Proofs.YtjkcfjhjbjcfcaaDoor
