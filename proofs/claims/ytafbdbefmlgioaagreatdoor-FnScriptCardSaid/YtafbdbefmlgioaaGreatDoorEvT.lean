/- The text of an event. -/
import Derived.Test.YtafbdbefmlgioaaGreatDoorEvA
import Derived.Test.YtafbdbefmlgioaaGreatDoorNumI
namespace Go.Proofs.YtafbdbefmlgioaaGreatDoor
open Go.RowKit
set_option linter.unusedVariables false
set_option linter.unusedSimpArgs false

/-- what stands in a text -/
def sel {α : Type} : List Bool → List α → List α
  | b :: h, x :: r => if b = true then x :: sel h r else sel h r
  | _, _ => []
section
variable {α : Type}
theorem sel_nil (h : List Bool) : sel h ([] : List α) = [] := by cases h <;> rfl
theorem sel_take : ∀ (h : List Bool) (xs : List α) (k : Nat) (b : Bool) (x : α), h[k]? = some b → xs[k]? = some x → sel (h.take (k + 1)) (xs.take (k + 1)) = sel (h.take k) (xs.take k) ++ (if b = true then [x] else [])
  | [], xs, k, b, x, hb, hx => by simp at hb
  | c :: h, [], k, b, x, hb, hx => by simp at hx
  | c :: h, y :: r, 0, b, x, hb, hx => by
    simp at hb hx
    subst hb
    subst hx
    simp [sel]
  | c :: h, y :: r, k + 1, b, x, hb, hx => by
    have ih := sel_take h r k b x (by simpa using hb) (by simpa using hx)
    rw [List.take_succ_cons, List.take_succ_cons, List.take_succ_cons, List.take_succ_cons]
    simp only [sel]
    rw [ih]
    split <;> simp
theorem sel_short : ∀ (h : List Bool) (xs : List α) (n : Nat), xs.length ≤ n → sel (h.take n) xs = sel h xs
  | h, [], n, _ => by rw [sel_nil, sel_nil]
  | [], x :: r, n, _ => by simp
  | c :: h, x :: r, 0, hn => by simp at hn
  | c :: h, x :: r, n + 1, hn => by
    have ih := sel_short h r n (by simpa using hn)
    simp only [List.take_succ_cons, sel, ih]
theorem sel_mem : ∀ (h : List Bool) (xs : List α) (x : α), x ∈ sel h xs → x ∈ xs
  | h, [], x, hx => by rw [sel_nil] at hx; exact hx
  | [], y :: r, x, hx => by simp [sel] at hx
  | c :: h, y :: r, x, hx => by
    simp only [sel] at hx
    split at hx
    · rcases List.mem_cons.1 hx with rfl | hx
      · exact List.mem_cons_self
      · exact List.mem_cons_of_mem _ (sel_mem h r x hx)
    · exact List.mem_cons_of_mem _ (sel_mem h r x hx)
theorem sel_len : ∀ (h : List Bool) (xs : List α), (sel h xs).length ≤ xs.length
  | h, [] => by rw [sel_nil]; exact Nat.le_refl _
  | [], y :: r => by simp [sel]
  | c :: h, y :: r => by
    have := sel_len h r
    simp only [sel]
    split <;> simp <;> omega
theorem sel_map {β : Type} (f : α → β) : ∀ (h : List Bool) (xs : List α), (sel h xs).map f = sel h (xs.map f)
  | h, [] => by rw [sel_nil]; exact (sel_nil h).symm
  | [], y :: r => by simp [sel]
  | c :: h, y :: r => by
    have := sel_map f h r
    simp only [sel, List.map_cons]
    split <;> simp [this]
end
def evWords : List (List UInt8) := [[], [100, 101, 112, 111, 115, 105, 116], [111, 112, 101, 110], [99, 108, 111, 115, 101], [112, 114, 105, 99, 101], [97, 100, 109, 105, 116], [102, 117, 108, 102, 105, 108, 108], [102, 97, 105, 108], [116, 105, 99, 107], [108, 97, 117, 110, 99, 104], [97, 114, 114, 105, 118, 101], [108, 111, 115, 116]]
def evWord (k : Int) : List UInt8 := (evWords[k.toNat]?).getD []
def evNums (k key ch too amt fee : Int) : List Int := sel (hasF k) [key, ch, too, amt, fee]
def evEnd (k : Int) (yes : Bool) : List UInt8 := if k = 5 then (if yes = true then [32, 121, 101, 115] else [32, 110, 111]) else []
def evText (k key ch too amt fee : Int) (yes : Bool) : List UInt8 := if evOk k key ch too amt fee yes = true then evWord k ++ tailT (evNums k key ch too amt fee) ++ evEnd k yes else []
theorem fld_bd {h : Bool} {n lo hi : Int} (hf : fld h n lo hi = true) (h0 : 0 ≤ lo) (h1 : hi ≤ 1125899906842624) : 0 ≤ n ∧ n ≤ 1125899906842624 := by
  unfold fld at hf
  split at hf
  · have := of_decide_eq_true hf; omega
  · have := of_decide_eq_true hf; omega
theorem evOk_kind {k key ch too amt fee : Int} {yes : Bool} (h : evOk k key ch too amt fee yes = true) : 1 ≤ k ∧ k ≤ 11 := by
  unfold evOk at h
  rw [Bool.and_eq_true] at h
  exact of_decide_eq_true h.1
theorem evOk_in {k key ch too amt fee : Int} {yes : Bool} (h : evOk k key ch too amt fee yes = true) : ∀ x ∈ [key, ch, too, amt, fee], 0 ≤ x ∧ x ≤ 1125899906842624 := by
  have hk := evOk_kind h
  unfold evOk at h
  split at h
  · simp only [Bool.and_eq_true] at h
    obtain ⟨-, ⟨⟨⟨⟨⟨g0, g1⟩, g2⟩, -⟩, g3⟩, g4⟩, -⟩ := h
    have b0 := fld_bd g0 (by omega) (by omega)
    have b1 := fld_bd g1 (by omega) (by omega)
    have b2 := fld_bd g2 (by omega) (by omega)
    have b3 := fld_bd g3 (by split <;> omega) (by omega)
    have b4 := fld_bd g4 (by omega) (by split <;> omega)
    intro x hx
    simp at hx
    rcases hx with rfl | rfl | rfl | rfl | rfl <;> assumption
  · simp at h
theorem evNums_in {k key ch too amt fee : Int} {yes : Bool} (h : evOk k key ch too amt fee yes = true) : ∀ x ∈ evNums k key ch too amt fee, 0 ≤ x ∧ x ≤ 1125899906842624 := fun x hx => evOk_in h x (sel_mem _ _ x hx)
theorem evWord_len (k : Int) : (evWord k).length ≤ 7 := by
  unfold evWord
  cases h : evWords[k.toNat]? with
  | none => simp
  | some v =>
    have hm : v ∈ evWords := List.mem_of_getElem? h
    have : ∀ v ∈ evWords, v.length ≤ 7 := by decide
    exact this v hm
theorem evNums_len (k key ch too amt fee : Int) : (evNums k key ch too amt fee).length ≤ 5 := sel_len _ _
theorem evText_len (k key ch too amt fee : Int) (yes : Bool) : (evText k key ch too amt fee yes).length ≤ 200 := by
  unfold evText
  split
  · rename_i h
    have h1 := tailT_len _ (evNums_in h)
    have h2 := evNums_len k key ch too amt fee
    have h3 := evWord_len k
    have h4 : (evEnd k yes).length ≤ 4 := by unfold evEnd; repeat' split
                                             all_goals simp
    simp only [List.length_append]
    omega
  · simp

end Go.Proofs.YtafbdbefmlgioaaGreatDoor
