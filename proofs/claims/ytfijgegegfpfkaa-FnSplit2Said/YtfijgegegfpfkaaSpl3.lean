/- Two ways to split: by the greatest first no more parts are used. -/
import Derived.Test.YtfijgegegfpfkaaSpl2
namespace Go.Proofs.Ytfijgegegfpfkaa
open Go.RowKit
set_option linter.unusedVariables false
set_option linter.unusedSimpArgs false

theorem used_le {cs : List Int} (hc : allAmt cs = true) {n : Int} (hn : 0 ≤ n ∧ n ≤ 1125899906842624) (h0 : (spB cs n (List.range cs.length)).1 = 0) : posCount (spB cs n (ordOf (keyOf cs) cs.length)).2 ≤ posCount (spB cs n (List.range cs.length)).2 := by
  obtain ⟨xs, hxs⟩ : ∃ xs, xs = (spB cs n (List.range cs.length)).2 := ⟨_, rfl⟩
  have hl : xs.length = cs.length := by rw [hxs]; exact (spB_inv cs n hc hn (List.range cs.length) (by simp)).2.1
  have ht := spB_total (cs := cs) (n := n) (idx := List.range cs.length) List.nodup_range (by simp)
  rw [h0, ← hxs, Int.zero_add] at ht
  have hf : ∀ i, xs.getD i 0 ≤ cs.getD i 0 := by
    intro i
    cases h : xs[i]? with
    | none =>
      rw [List.getD_eq_getElem?_getD, h]
      exact getD_nn hc i
    | some y =>
      rw [getD_of h]
      rw [hxs] at h
      refine (spB_fit hc (List.range cs.length) (n, List.replicate cs.length 0) hn.1 (fun i y hy => ?_) i y h).2
      have hm := List.mem_of_getElem? hy
      have := (List.mem_replicate.1 hm).2
      have := getD_nn hc i
      omega
  have hp := (ord_perm (key := keyOf cs) cs.length).filter fun i => decide (0 < xs.getD i 0)
  have hsum := sum_used (fun i => xs.getD i 0) cs hf (List.range cs.length)
  rw [← hl, sum_range, ht, hl] at hsum
  have hu := posCount_range xs
  rw [hl, ← hp.length_eq] at hu
  rw [← hxs, hu]
  refine cnt_cover hc hn.1 ((ord_perm cs.length).nodup_iff.2 List.nodup_range) (ord_lt cs.length) _ ?_
  refine Int.le_trans hsum ?_
  rw [← capSum_perm hp]
  exact sub_order hc _

/-- what the law asks of the two ways, where the amount can be split -/
theorem split_both {n : Int} {cs : List Int} (h : (splitL n cs).2 = true) :
    (splitF n cs).2 = true ∧ sumOk (splitL n cs).1 = true ∧ sumOk (splitF n cs).1 = true ∧ (splitL n cs).1.sum = n ∧ (splitF n cs).1.sum = n ∧ fitsB (splitL n cs).1 cs = true ∧ fitsB (splitF n cs).1 cs = true ∧ posCount (splitF n cs).1 ≤ posCount (splitL n cs).1 := by
  have hs := split_same n cs
  rw [h] at hs
  by_cases hk : capsOk n cs = true
  · obtain ⟨hall, hn, _⟩ := capsOk_t hk
    have hnb := amtOk_t hn
    have eL : splitL n cs = resB (spB cs n (List.range cs.length)) := if_pos hk
    have eF : splitF n cs = resB (spB cs n (ordOf (keyOf cs) cs.length)) := if_pos hk
    have key : ∀ s : Int × List Int, (resB s).2 = true → resB s = (s.2, true) ∧ ¬ 0 < s.1 := by
      intro s hs
      unfold resB at hs ⊢
      split at hs
      · cases hs
      · rename_i h1; rw [if_neg h1]; exact ⟨rfl, h1⟩
    rw [eL] at h
    rw [eF] at hs
    obtain ⟨e1, z1⟩ := key _ h
    obtain ⟨e2, z2⟩ := key _ hs
    have i1 := spB_inv cs n hall hnb (List.range cs.length) (by simp)
    have i2 := spB_inv cs n hall hnb (ordOf (keyOf cs) cs.length) (ord_lt cs.length)
    have t1 := spB_total (cs := cs) (n := n) (idx := List.range cs.length) List.nodup_range (by simp)
    have t2 := spB_total (cs := cs) (n := n) (idx := ordOf (keyOf cs) cs.length) ((ord_perm cs.length).nodup_iff.2 List.nodup_range) (ord_lt cs.length)
    have z1b := i1.1.1
    have z2b := i2.1.1
    have s1 : (spB cs n (List.range cs.length)).2.sum = n := by omega
    have s2 : (spB cs n (ordOf (keyOf cs) cs.length)).2.sum = n := by omega
    rw [eL, eF, e1, e2]
    have ok : ∀ l : List Int, (∀ y ∈ l, 0 ≤ y ∧ y ≤ 1125899906842624) → l.sum = n → sumOk l = true := by
      intro l h1 h2
      unfold sumOk allAmt
      rw [Bool.and_eq_true]
      exact ⟨List.all_eq_true.2 fun y hy => amtOk_t' (h1 y hy).1 (h1 y hy).2, decide_eq_true (by omega)⟩
    exact ⟨rfl, ok _ i1.2.2 s1, ok _ i2.2.2 s2, s1, s2, spB_fits hall hnb (by simp), spB_fits hall hnb (ord_lt cs.length), used_le hall hnb (by omega)⟩
  · rw [show splitL n cs = ([], false) from if_neg hk] at h
    cases h
theorem split_none {n : Int} {cs : List Int} (h : (splitL n cs).2 = false) : (splitF n cs).2 = false ∧ (splitL n cs).1 = [] ∧ (splitF n cs).1 = [] := by
  have hs := split_same n cs
  rw [h] at hs
  have key : ∀ s : Int × List Int, (resB s).2 = false → (resB s).1 = [] := by
    intro s hs
    unfold resB at hs ⊢
    split at hs
    · rename_i h1; rw [if_pos h1]
    · cases hs
  refine ⟨hs, ?_, ?_⟩
  · unfold splitL at h ⊢
    split at h
    · rename_i h1; rw [if_pos h1]; exact key _ h
    · rename_i h1; rw [if_neg h1]
  · unfold splitF at hs ⊢
    split at hs
    · rename_i h1; rw [if_pos h1]; exact key _ hs
    · rename_i h1; rw [if_neg h1]

end Go.Proofs.Ytfijgegegfpfkaa
