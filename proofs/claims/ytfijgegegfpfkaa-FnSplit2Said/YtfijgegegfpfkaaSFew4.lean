/- The greatest first: the reference's function walked. -/
import Derived.Test.YtfijgegegfpfkaaSFew3
namespace Go.Proofs.Ytfijgegegfpfkaa
open Go.RowKit Go.Shelf Go.Lib
set_option linter.unusedVariables false
set_option linter.unusedSimpArgs false
/-- the slice (a, len) holds the answers tk -/
def BS (w : World) (a : Option Addr) (len : Nat) (tk : Nat → Bool) : Prop := len ≤ maxLen ∧ ∀ i, i < len → ∃ b off, a = some ⟨b, off, none⟩ ∧ w.cell? ⟨b, off + i, none⟩ = some (.bool (tk i))
def bestV (key : Nat → Int) (tk : Nat → Bool) (i : Nat) : Int := match bestOf key tk i with | none => -1 | some b => b
theorem bestV_lt (key : Nat → Int) (tk : Nat → Bool) (i : Nat) : -1 ≤ bestV key tk i ∧ bestV key tk i < i := by
  unfold bestV
  have h := bestOf_spec (key := key) tk i
  cases hb : bestOf key tk i with
  | none => simp <;> omega
  | some b => rw [hb] at h; have := h.1; simp; omega
theorem bestV_taken {key : Nat → Int} {tk : Nat → Bool} {i : Nat} (h : tk i = true) : bestV key tk (i + 1) = bestV key tk i := by
  unfold bestV
  rw [bestOf, if_pos h]
theorem bestV_new {key : Nat → Int} {tk : Nat → Bool} {i : Nat} (h : tk i = false) (hb : bestV key tk i < 0) : bestV key tk (i + 1) = i := by
  unfold bestV at hb ⊢
  rw [bestOf, if_neg (by simp [h])]
  cases hc : bestOf key tk i with
  | none => rfl
  | some b => rw [hc] at hb; simp at hb <;> omega
theorem bestV_more {key : Nat → Int} {tk : Nat → Bool} {i b : Nat} (h : tk i = false) (hb : bestV key tk i = b) (hlt : key b < key i) : bestV key tk (i + 1) = i := by
  unfold bestV at hb ⊢
  rw [bestOf, if_neg (by simp [h])]
  cases hc : bestOf key tk i with
  | none => rfl
  | some b' =>
    rw [hc] at hb
    have : b' = b := by simp at hb; omega
    subst this
    simp only []
    rw [if_pos hlt]
theorem bestV_same {key : Nat → Int} {tk : Nat → Bool} {i b : Nat} (h : tk i = false) (hb : bestV key tk i = b) (hlt : ¬ key b < key i) : bestV key tk (i + 1) = b := by
  unfold bestV at hb ⊢
  rw [bestOf, if_neg (by simp [h])]
  cases hc : bestOf key tk i with
  | none => rw [hc] at hb; simp at hb <;> omega
  | some b' =>
    rw [hc] at hb
    have : b' = b := by simp at hb; omega
    subst this
    simp only []
    rw [if_neg hlt]
theorem keyOf_at {cs : List Int} {i : Nat} {x : Int} (h : cs[i]? = some x) : keyOf cs i = x := by
  unfold keyOf
  rw [Nat.mod_eq_of_lt (List.getElem?_eq_some_iff.1 h).1]
  exact getD_of h

set_option maxHeartbeats 1600000 in
theorem l16Next_spec (a : Option Addr) (len cap : Nat) (cs : List Int) (a' : Option Addr) (cap' : Nat) (tk : Nat → Bool) (w : World) (hs : IS w w.heap.size a len cs) (ht : BS w a' len tk) : Calls Try.prog 19 #[.slice a len cap, .slice a' len cap'] w fun e w' =>
    e = .returned (.int .i64 (bestV (keyOf cs) tk len)) ∧ w' = w := by
  have hl := hs.len
  go_enter Try.func19, Try.ntmps19
  go_wp2
  go_loop [5, 10] (fun b i => ∃ k : Nat, k ≤ len ∧ i = .int .i64 k ∧ b = .int .i64 (bestV (keyOf cs) tk k)) (fun _ i => len - (intOf i).toNat)
  case atStart => exact ⟨0, Nat.zero_le _, rfl, rfl⟩
  case round =>
    obtain ⟨k, hk, rfl, rfl⟩ := hrel
    obtain ⟨bv1, bv2⟩ := bestV_lt (keyOf cs) tk k
    by_cases hlt : k < len
    · obtain ⟨b, off, x, rfl, hb, hc, hbd, hx, hxs⟩ := hs.at_ hlt
      obtain ⟨b2, off2, rfl, hc2⟩ := ht.2 k hlt
      have hkx := keyOf_at hx.out
      cases htk : tk k with
      | true =>
        rw [htk] at hc2
        have Hb := Lib.hid (bestV_taken (key := keyOf cs) htk)
        clear hkx htk
        generalize bestV (keyOf cs) tk k = v at bv1 bv2 Hb ⊢
        go_wp2
        go_round
        case rel => exact ⟨k + 1, by omega, by go_num, by rw [Hb.out]⟩
        case measure => simp [intOf]; omega
      | false =>
        rw [htk] at hc2
        rcases Int.lt_or_le (bestV (keyOf cs) tk k) 0 with hneg | hpos
        · have Hb := Lib.hid (bestV_new htk hneg)
          clear hkx htk
          generalize bestV (keyOf cs) tk k = v at bv1 bv2 hneg ⊢
          go_wp2
          go_round
          case rel => exact ⟨k + 1, by omega, by go_num, by rw [Hb.out]⟩
          case measure => simp [intOf]; omega
        · obtain ⟨v, hv⟩ : ∃ v : Nat, bestV (keyOf cs) tk k = v := ⟨(bestV (keyOf cs) tk k).toNat, by omega⟩
          obtain ⟨b3, off3, y, hbe, hb3, hc3, hbd3, hy, hys⟩ := hs.at_ (show v < len by omega)
          cases hbe
          have hky := keyOf_at hy.out
          by_cases hgt : y < x
          · have Hb := Lib.hid (bestV_more htk hv (by rw [hkx, hky]; exact hgt))
            clear hkx htk hky
            rw [hv] at bv1 bv2 hpos ⊢
            go_wp2
            go_round
            case rel => exact ⟨k + 1, by omega, by go_num, by rw [Hb.out]⟩
            case measure => simp [intOf]; omega
          · have Hb := Lib.hid (bestV_same htk hv (by rw [hkx, hky]; exact hgt))
            clear hkx htk hky
            rw [hv] at bv1 bv2 hpos ⊢
            go_wp2
            go_round
            case rel => exact ⟨k + 1, by omega, by go_num, by rw [Hb.out]⟩
            case measure => simp [intOf]; omega
    · obtain rfl : k = len := by omega
      go_wp2
      go_ret
      exact ⟨rfl, rfl⟩

theorem infoBool : (Try.prog.info? 4).map (fun i => (i.zero, i.size, i.bytes)) = some (some (.bool false), 1, 1) := by kernel_rfl
/-- taken by the first k of the order -/
def tkL (o : List Nat) (n k : Nat) : List Bool := (List.range n).map fun i => decide (i ∈ o.take k)
theorem tkL_len (o : List Nat) (n k : Nat) : (tkL o n k).length = n := by simp [tkL]
theorem tkL_get (o : List Nat) (n k i : Nat) (h : i < n) : (tkL o n k)[i]? = some (decide (i ∈ o.take k)) := by simp [tkL, h]
theorem tkL_set {o : List Nat} {n k j : Nat} (h : o[k]? = some j) : (tkL o n k).set j true = tkL o n (k + 1) := by
  apply List.ext_getElem?
  intro i
  rw [List.getElem?_set]
  by_cases hi : i < n
  · rw [tkL_get o n (k + 1) i hi, take_snoc_nat h]
    by_cases e : j = i
    · subst e
      rw [if_pos rfl, if_pos (by rw [tkL_len]; exact hi)]
      simp
    · rw [if_neg e, tkL_get o n k i hi]
      congr 1
      apply decide_eq_decide.2
      simp only [List.mem_append, List.mem_singleton]
      constructor
      · exact fun h => .inl h
      · rintro (h | h)
        · exact h
        · exact absurd h.symm e
  · have e1 : (tkL o n (k + 1))[i]? = none := List.getElem?_eq_none (by rw [tkL_len]; omega)
    have e2 : (tkL o n k)[i]? = none := List.getElem?_eq_none (by rw [tkL_len]; omega)
    rw [e1]
    split
    · rw [if_neg (by rw [tkL_len]; omega)]
    · exact e2

end Go.Proofs.Ytfijgegegfpfkaa
