/- The greatest first: the plain part. -/
import Derived.Test.YtfijgegegfpfkaaSymU
import Derived.Sort.LotA
namespace Go.Proofs.Ytfijgegegfpfkaa
open Go.RowKit
set_option linter.unusedVariables false
set_option linter.unusedSimpArgs false

section
variable {key : Nat → Int}
/-- the places, the greatest first, those alike in their order -/
def ordOf (key : Nat → Int) (n : Nat) : List Nat := (List.range n).mergeSort fun x y => !TB key y x
theorem TB_tot (x y : Nat) (h1 : TB key x y = false) (h2 : TB key y x = false) : x = y := by
  have a := of_decide_eq_false h1
  have b := of_decide_eq_false h2
  omega
theorem toArray_size (n : Nat) : (List.range n).toArray.size = n := by simp
theorem range_get (n i : Nat) (h : i < n) : (List.range n).toArray[i]! = i := by
  rw [getElem!_pos _ i (by simpa using h)]
  simp
theorem ord_of {n : Nat} {d : Array Nat} (hP : Sort.PermIn 0 n (List.range n).toArray d) (hS : Srt key d 0 n) : d.toList = ordOf key n := by
  have h := Sort.sorted_unique_holds (lt := TB key) TB_swo TB_tot (List.range n).toArray d (by rw [toArray_size]; exact hP) (by
    rw [toArray_size]
    intro i j h1 h2 h3
    exact Sort.SWO.asymmA TB_swo (hS i j h1 h2 h3))
  rw [h]
  rfl
theorem fresh_range (n b : Nat) (hb : b ≤ n) : Fresh 0 1 b (List.range n).toArray := by
  refine ⟨fun t u h1 h2 h3 h4 => ?_, fun t u h1 h2 h3 => ?_⟩
  · rw [range_get n t (by omega), range_get n u (by omega)]; omega
  · rw [range_get n t (by omega), range_get n u (by omega)]; omega
theorem srt_ins (d : Array Nat) (a b : Nat) (hb : b ≤ d.size) (hab : a ≤ b) (hF : ∀ t u, a ≤ t → t < u → u < b → d[t]! < d[u]!) : Merged key a b d (Sort.insertionSort (gtB key) d a b) := by
  unfold Sort.insertionSort
  by_cases h : a = b
  · subst h
    have e : Sort.insOuter (gtB key) a a (a + 1) d = d := by rw [Sort.insOuter, if_neg (by omega)]
    rw [e]
    exact ⟨Sort.permIn_refl d a a, fun i j h1 h2 h3 => by omega⟩
  · rw [insOuter_TB a b _ (a + 1) d rfl (by omega) hb (Srt.one d a (a + 1) (by omega)) ⟨fun t u h1 h2 h3 h4 => hF t u h1 (by omega) h4, fun t u h1 h2 h3 => hF t u (by omega) h2 h3⟩]
    have h1 := Sort.insOuter_spec TB_swo (lt := TB key) Sort.swp_permIn Sort.permIn_refl Sort.permIn_trans a b (b - (a + 1)) (a + 1) d rfl (by omega) (by omega) hb (fun i j h1 h2 h3 => by omega)
    refine ⟨h1.1, fun p q g1 g2 g3 => ?_⟩
    have h0 := of_decide_eq_false (h1.2 p q g1 g2 g3)
    -- none of them twice
    have hnd : ((d.extract a b).toList).Nodup := by
      rw [Sort.extract_toList d a b hb]
      refine List.Pairwise.map _ (R := fun x y => x < y ∧ a ≤ x ∧ y < b) (fun x y hxy => ?_) ?_
      · obtain ⟨z1, z2, z3⟩ := hxy
        have := hF x y z2 z1 z3
        omega
      · rw [List.pairwise_iff_getElem]
        intro x y hx hy hxy
        simp only [List.length_range'] at hx hy
        simp only [List.getElem_range']
        omega
    have hnd2 := h1.1.2.2.symm.nodup hnd
    have hz := h1.1.1
    rw [Sort.extract_toList _ a b (by omega)] at hnd2
    have := List.pairwise_iff_getElem.1 hnd2 (p - a) (q - a) (by simp; omega) (by simp; omega) (by omega)
    simp only [List.getElem_map, List.getElem_range', Nat.one_mul] at this
    rw [show a + (p - a) = p by omega, show a + (q - a) = q by omega] at this
    rw [TB_iff]
    omega
theorem ord_perm (n : Nat) : (ordOf key n).Perm (List.range n) := List.mergeSort_perm _ _
theorem ord_len (n : Nat) : (ordOf key n).length = n := by rw [(ord_perm n).length_eq, List.length_range]
theorem ord_lt (n : Nat) : ∀ i ∈ ordOf key n, i < n := fun i hi => by
  have := (ord_perm n).mem_iff.1 hi
  simpa using this
theorem ord_sort (n : Nat) : (ordOf key n).Pairwise fun x y => TB key x y = true := by
  have hm := srt_ins (key := key) (List.range n).toArray 0 n (by simp) (Nat.zero_le _) (fun t u h1 h2 h3 => by rw [range_get n t (by omega), range_get n u (by omega)]; omega)
  have hs := ord_of hm.1 hm.2
  rw [← hs, List.pairwise_iff_getElem]
  intro i j hi hj hij
  have hz := hm.1.1
  rw [toArray_size] at hz
  simp only [Array.length_toList] at hi hj
  have := hm.2 i j (Nat.zero_le _) hij (by omega)
  rw [getElem!_pos _ i hi, getElem!_pos _ j hj] at this
  simpa using this
/-- the best of those below i that are not taken -/
def bestOf (key : Nat → Int) (tk : Nat → Bool) : Nat → Option Nat
  | 0 => none
  | i + 1 => if tk i = true then bestOf key tk i else match bestOf key tk i with
    | none => some i
    | some b => if key b < key i then some i else some b
theorem bestOf_spec (tk : Nat → Bool) : ∀ i, match bestOf key tk i with
    | none => ∀ j, j < i → tk j = true
    | some b => b < i ∧ tk b = false ∧ ∀ j, j < i → tk j = false → j ≠ b → TB key b j = true
  | 0 => by simp [bestOf]
  | i + 1 => by
    have ih := bestOf_spec tk i
    unfold bestOf
    by_cases ht : tk i = true
    · rw [if_pos ht]
      cases hb : bestOf key tk i with
      | none =>
        rw [hb] at ih
        intro j hj
        by_cases e : j = i
        · subst e; exact ht
        · exact ih j (by omega)
      | some b =>
        rw [hb] at ih
        obtain ⟨h1, h2, h3⟩ := ih
        refine ⟨by omega, h2, fun j hj hjt hne => ?_⟩
        by_cases e : j = i
        · subst e; rw [ht] at hjt; cases hjt
        · exact h3 j (by omega) hjt hne
    · rw [if_neg ht]
      have ht' : tk i = false := by simpa using ht
      cases hb : bestOf key tk i with
      | none =>
        rw [hb] at ih
        refine ⟨by omega, ht', fun j hj hjt hne => ?_⟩
        have := ih j (by omega)
        rw [this] at hjt; cases hjt
      | some b =>
        rw [hb] at ih
        obtain ⟨h1, h2, h3⟩ := ih
        show match (if key b < key i then some i else some b) with | none => _ | some b => _
        split
        · rename_i hn
          split at hn <;> cases hn
        · rename_i c hc
          by_cases hlt : key b < key i
          · rw [if_pos hlt] at hc
            cases hc
            refine ⟨by omega, ht', fun j hj hjt hne => ?_⟩
            by_cases e : j = b
            · subst e; rw [TB_iff]; omega
            · exact TB_trans (show TB key i b = true by rw [TB_iff]; omega) (h3 j (by omega) hjt e)
          · rw [if_neg hlt] at hc
            cases hc
            refine ⟨by omega, h2, fun j hj hjt hne => ?_⟩
            by_cases e : j = i
            · subst e; rw [TB_iff]; omega
            · exact h3 j (by omega) hjt hne
/-- the next of the order is the best that is left -/
theorem best_next {n k : Nat} {o : Nat} (h : (ordOf key n)[k]? = some o) : bestOf key (fun i => decide (i ∈ (ordOf key n).take k)) n = some o := by
  have hk : k < (ordOf key n).length := (List.getElem?_eq_some_iff.1 h).1
  have ho : (ordOf key n)[k] = o := (List.getElem?_eq_some_iff.1 h).2
  have hs := ord_sort (key := key) n
  have hon : o < n := ord_lt n o (List.mem_of_getElem? h)
  have hpre : ∀ x ∈ (ordOf key n).take k, TB key x o = true := by
    intro x hx
    obtain ⟨i, hi, rfl⟩ := List.getElem_of_mem hx
    rw [List.length_take] at hi
    rw [List.getElem_take, ← ho]
    exact List.pairwise_iff_getElem.1 hs i k (by omega) hk (by omega)
  have hpost : ∀ x, x < n → x ∉ (ordOf key n).take k → x ≠ o → TB key o x = true := by
    intro x hx hnx hne
    have hm : x ∈ ordOf key n := (ord_perm n).mem_iff.2 (by simpa using hx)
    obtain ⟨i, hi, rfl⟩ := List.getElem_of_mem hm
    rcases Nat.lt_trichotomy i k with h1 | h1 | h1
    · exact absurd (List.mem_take_iff_getElem.2 ⟨i, by omega, rfl⟩) hnx
    · subst h1; exact absurd ho hne
    · rw [← ho]
      exact List.pairwise_iff_getElem.1 hs k i hk hi h1
  have hno : o ∉ (ordOf key n).take k := fun hm => by
    have := hpre o hm
    rw [TB_irr] at this
    cases this
  have hb := bestOf_spec (key := key) (fun i => decide (i ∈ (ordOf key n).take k)) n
  cases hc : bestOf key (fun i => decide (i ∈ (ordOf key n).take k)) n with
  | none =>
    rw [hc] at hb
    have := hb o hon
    exact absurd (of_decide_eq_true this) hno
  | some b =>
    rw [hc] at hb
    obtain ⟨h1, h2, h3⟩ := hb
    by_cases e : b = o
    · rw [e]
    · have a1 := h3 o hon (decide_eq_false hno) (fun e2 => e e2.symm)
      have a2 := hpost b h1 (of_decide_eq_false h2) e
      have := TB_trans a1 a2
      rw [TB_irr] at this
      cases this
end

end Go.Proofs.Ytfijgegegfpfkaa
