/- Parts: the count of positive ones, the fit. -/
import Derived.Test.YtddfdomhapaefaaInts
import Derived.Test.YtddfdomhapaefaaAdd
namespace Go.Proofs.Ytddfdomhapaefaa
open Go.RowKit
set_option linter.unusedVariables false
set_option linter.unusedSimpArgs false

def posCount (xs : List Int) : Nat := (xs.filter fun x => decide (0 < x)).length
theorem posCount_le (xs : List Int) : posCount xs ≤ xs.length := List.length_filter_le _ _
theorem posCount_snoc (xs : List Int) (x : Int) : posCount (xs ++ [x]) = posCount xs + if 0 < x then 1 else 0 := by
  unfold posCount
  rw [List.filter_append]
  by_cases h : 0 < x <;> simp [h]
theorem posCount_t (xs : List Int) (x : Int) (h : 0 < x) : (posCount (xs ++ [x]) : Int) = posCount xs + 1 := by rw [posCount_snoc, if_pos h]; rfl
theorem posCount_f (xs : List Int) (x : Int) (h : ¬ 0 < x) : (posCount (xs ++ [x]) : Int) = posCount xs := by rw [posCount_snoc, if_neg h]; rfl
def allAmt (xs : List Int) : Bool := xs.all amtOk
def sumOk (xs : List Int) : Bool := allAmt xs && decide (xs.sum ≤ 1125899906842624)
theorem allAmt_snoc {xs : List Int} {x : Int} (h : allAmt xs = true) (hx : amtOk x = true) : allAmt (xs ++ [x]) = true := by simp_all [allAmt, List.all_append]
theorem allAmt_bad {xs : List Int} {k : Nat} {x : Int} (h : xs[k]? = some x) (hx : amtOk x = false) : allAmt xs = false := by
  unfold allAmt
  rw [List.all_eq_false]
  exact ⟨x, List.mem_of_getElem? h, by simp [hx]⟩
theorem sum_snoc (xs : List Int) (x : Int) : (xs ++ [x]).sum = xs.sum + x := by simp
theorem sum_take_le (xs : List Int) (h : allAmt xs = true) (k : Nat) : 0 ≤ (xs.take k).sum ∧ (xs.take k).sum ≤ xs.sum := by
  unfold allAmt at h
  rw [List.all_eq_true] at h
  induction xs generalizing k with
  | nil => simp
  | cons x xs ih =>
    have hx := amtOk_t (h x (by simp))
    have ih' := ih (fun y hy => h y (by simp [hy]))
    cases k with
    | zero => have := (ih' xs.length).2; have := (ih' 0).2; simp at *; omega
    | succ k => have := ih' k; simp; omega
theorem sumOk_over {xs : List Int} {k : Nat} (h : 1125899906842624 < (xs.take k).sum) : sumOk xs = false := by
  unfold sumOk
  by_cases ha : allAmt xs = true
  · have := sum_take_le xs ha k
    rw [ha]; simp; omega
  · simp [ha]
def fitsB (xs cs : List Int) : Bool := decide (xs.length = cs.length) && (xs.zip cs).all fun p => amtOk p.1 && decide (p.1 ≤ p.2)
theorem zip_snoc {xs cs : List Int} {k : Nat} {x c : Int} (hx : xs.take (k + 1) = xs.take k ++ [x]) (hc : cs.take (k + 1) = cs.take k ++ [c]) (hl : (xs.take k).length = (cs.take k).length) :
    (xs.take (k + 1)).zip (cs.take (k + 1)) = (xs.take k).zip (cs.take k) ++ [(x, c)] := by
  rw [hx, hc, List.zip_append hl]; rfl
theorem fits_bad {xs cs : List Int} {k : Nat} {x c : Int} (hx : xs[k]? = some x) (hc : cs[k]? = some c) (h : ¬ (amtOk x = true ∧ x ≤ c)) : fitsB xs cs = false := by
  unfold fitsB
  have : ((xs.zip cs).all fun p => amtOk p.1 && decide (p.1 ≤ p.2)) = false := by
    rw [List.all_eq_false]
    refine ⟨(x, c), ?_, by simpa using h⟩
    exact List.mem_of_getElem? (i := k) (by rw [List.getElem?_zip_eq_some]; exact ⟨hx, hc⟩)
  rw [this, Bool.and_false]

end Go.Proofs.Ytddfdomhapaefaa
