/- Parts: the count of positive ones, the fit. -/
import Derived.Test.YtfijgegegfpfkaaInts
import Derived.Test.YtfijgegegfpfkaaAdd
namespace Go.Proofs.Ytfijgegegfpfkaa
open Go.RowKit
set_option linter.unusedVariables false
set_option linter.unusedSimpArgs false

def posCount (xs : List Int) : Nat := (xs.filter fun x => decide (0 < x)).length
theorem posCount_le (xs : List Int) : posCount xs ≤ xs.length := List.length_filter_le _ _
theorem posCount_snoc (xs : List Int) (x : Int) : posCount (xs ++ [x]) = posCount xs + if 0 < x then 1 else 0 := by
  unfold posCount
  rw [List.filter_append]
  by_cases h : 0 < x <;> simp [h]
theorem posCount_t (xs : List Int) (x : Int) (h : 0 < x) : (posCount (xs ++ [x]) : Int) = posCount xs + 1 := by rw [posCount_snoc, if_pos h]; rfl
theorem posCount_f (xs : List Int) (x : Int) (h : ¬ 0 < x) : (posCount (xs ++ [x]) : Int) = posCount xs := by rw [posCount_snoc, if_neg h]; rfl
def allAmt (xs : List Int) : Bool := xs.all amtOk
def sumOk (xs : List Int) : Bool := allAmt xs && decide (xs.sum ≤ 1125899906842624)
theorem allAmt_snoc {xs : List Int} {x : Int} (h : allAmt xs = true) (hx : amtOk x = true) : allAmt (xs ++ [x]) = true := by simp_all [allAmt, List.all_append]
theorem allAmt_bad {xs : List Int} {k : Nat} {x : Int} (h : xs[k]? = some x) (hx : amtOk x = false) : allAmt xs = false := by
  unfold allAmt
  rw [List.all_eq_false]
  exact ⟨x, List.mem_of_getElem? h, by simp [hx]⟩
theorem sum_snoc (xs : List Int) (x : Int) : (xs ++ [x]).sum = xs.sum + x := by simp
theorem sum_take_le (xs : List Int) (h : allAmt xs = true) (k : Nat) : 0 ≤ (xs.take k).sum ∧ (xs.take k).sum ≤ xs.sum := by
  unfold allAmt at h
  rw [List.all_eq_true] at h
  induction xs generalizing k with
  | nil => simp
  | cons x xs ih =>
    have hx := amtOk_t (h x (by simp))
    have ih' := ih (fun y hy => h y (by simp [hy]))
    cases k with
    | zero => have := (ih' xs.length).2; have := (ih' 0).2; simp at *; omega
    | succ k => have := ih' k; simp; omega
theorem sumOk_over {xs : List Int} {k : Nat} (h : 1125899906842624 < (xs.take k).sum) : sumOk xs = false := by
  unfold sumOk
  by_cases ha : allAmt xs = true
  · have := sum_take_le xs ha k
    rw [ha]; simp; omega
  · simp [ha]
def fitsB (xs cs : List Int) : Bool := decide (xs.length = cs.length) && (xs.zip cs).all fun p => amtOk p.1 && decide (p.1 ≤ p.2)
theorem zip_snoc {xs cs : List Int} {k : Nat} {x c : Int} (hx : xs.take (k + 1) = xs.take k ++ [x]) (hc : cs.take (k + 1) = cs.take k ++ [c]) (hl : (xs.take k).length = (cs.take k).length) :
    (xs.take (k + 1)).zip (cs.take (k + 1)) = (xs.take k).zip (cs.take k) ++ [(x, c)] := by
  rw [hx, hc, List.zip_append hl]; rfl
theorem fits_bad {xs cs : List Int} {k : Nat} {x c : Int} (hx : xs[k]? = some x) (hc : cs[k]? = some c) (h : ¬ (amtOk x = true ∧ x ≤ c)) : fitsB xs cs = false := by
  unfold fitsB
  have : ((xs.zip cs).all fun p => amtOk p.1 && decide (p.1 ≤ p.2)) = false := by
    rw [List.all_eq_false]
    refine ⟨(x, c), ?_, by simpa using h⟩
    exact List.mem_of_getElem? (i := k) (by rw [List.getElem?_zip_eq_some]; exact ⟨hx, hc⟩)
  rw [this, Bool.and_false]

set_option maxHeartbeats 800000 in
theorem partsUsed_impl (a : Option Addr) (len cap : Nat) (xs : List Int) (w : World) (hs : IS w w.heap.size a len xs) : Calls Try.prog 16 #[.slice a len cap] w fun e w' => e = .returned (.int .i64 (posCount xs)) ∧ w = w' := by
  have hl := hs.len
  go_enter Try.func16, Try.ntmps16
  go_wp2
  go_loop [3, 8] (fun c i => ∃ k : Nat, k ≤ len ∧ i = .int .i64 k ∧ c = .int .i64 (posCount (xs.take k))) (fun _ i => len - (intOf i).toNat)
  case atStart => exact ⟨0, Nat.zero_le _, rfl, rfl⟩
  case round =>
    obtain ⟨k, hk, rfl, rfl⟩ := hrel
    have hp : (posCount (xs.take k) : Int) ≤ k := by have := posCount_le (xs.take k); have := List.length_take_le k xs; omega
    by_cases hlt : k < len
    · obtain ⟨b, off, x, rfl, hb, hc, hbd, hx, hxs⟩ := hs.at_ hlt
      by_cases hpos : 0 < x
      · have H := Lib.hid (posCount_t (xs.take k) x hpos)
        go_wp2
        go_round
        case rel => exact ⟨k + 1, by omega, by go_num, val_int (by rw [hxs.out, H.out])⟩
        case measure => simp [intOf]; omega
      · have H := Lib.hid (posCount_f (xs.take k) x hpos)
        go_wp2
        go_round
        case rel => exact ⟨k + 1, by omega, by go_num, val_int (by rw [hxs.out, H.out])⟩
        case measure => simp [intOf]; omega
    · go_wp2
      go_ret
      exact ⟨ret_int (by rw [hs.all (by omega)]), rfl⟩

set_option maxHeartbeats 1600000 in
theorem fits_impl (a : Option Addr) (len cap : Nat) (a' : Option Addr) (len' cap' : Nat) (xs cs : List Int) (w : World) (hs : IS w w.heap.size a len xs) (hs' : IS w w.heap.size a' len' cs) :
    Calls Try.prog 15 #[.slice a len cap, .slice a' len' cap'] w fun e w' => e = .returned (.bool (fitsB xs cs)) ∧ Below w.heap.size w w' := by
  have hl := hs.len
  have hl' := hs'.len
  have e1 := Lib.hid hs.1
  have e2 := Lib.hid hs'.1
  by_cases hne : len = len'
  · subst hne
    go_enter Try.func15, Try.ntmps15
    go_wp2
    go_loopw [5, 6, 14] (fun _ _ i wr => ∃ k : Nat, k ≤ len ∧ i = .int .i64 k ∧ Hid ((((xs.take k).zip (cs.take k)).all fun p => amtOk p.1 && decide (p.1 ≤ p.2)) = true) ∧ Below w.heap.size w wr) (fun _ _ i _ => len - (intOf i).toNat)
    case atStart => exact ⟨0, Nat.zero_le _, rfl, by simp [Hid], Below.refl _ _⟩
    case round =>
      obtain ⟨k, hk, rfl, ht, hB⟩ := hrel
      by_cases hlt : k < len
      · obtain ⟨b, off, x, rfl, hb, hc, hbd, hx, hxs⟩ := (hs.keep hB).at_ hlt
        obtain ⟨b', off', y, rfl, hb', hc', hbd', hy, hys⟩ := (hs'.keep hB).at_ hlt
        by_cases h1 : amtOk x = true
        · by_cases h2 : x ≤ y
          · go_wp2_with (((go_at_call 29; refine (amtOk_impl _ _).mono ?_); rintro e w1 ⟨rfl, rfl⟩))
            go_roundw
            case rel =>
              refine ⟨k + 1, by omega, by go_num, ?_, hB⟩
              unfold Hid
              rw [zip_snoc hxs.out hys.out (by have := e1.out; have := e2.out; simp; omega), List.all_append, ht.out]
              simp [h1, h2]
            case measure => simp [intOf]; omega
          · go_wp2_with (((go_at_call 29; refine (amtOk_impl _ _).mono ?_); rintro e w1 ⟨rfl, rfl⟩))
            go_ret
            exact ⟨ret_bool (by rw [fits_bad hx.out hy.out (by simp [h2])]), hB⟩
        · go_wp2_with (((go_at_call 29; refine (amtOk_impl _ _).mono ?_); rintro e w1 ⟨rfl, rfl⟩))
          go_ret
          exact ⟨ret_bool (by rw [fits_bad hx.out hy.out (by simp [h1])]), hB⟩
      · go_wp2
        go_ret
        rw [hs.all (by omega), hs'.all (by omega)] at ht
        exact ⟨ret_bool (by rw [fitsB, ht.out, e1.out, e2.out]; simp), hB⟩
  · have hne' : ((len : Int) != (len' : Int)) = true := by simp; omega
    go_enter Try.func15, Try.ntmps15
    go_wp2
    go_ret
    exact ⟨ret_bool (by rw [fitsB, e1.out, e2.out]; simp [hne]), Below.refl _ _⟩

end Go.Proofs.Ytfijgegegfpfkaa
