/- Two ways to split: the plain part. -/
import Derived.Test.YtfijgegegfpfkaaSFew3
import Derived.Test.YtfijgegegfpfkaaParts
namespace Go.Proofs.Ytfijgegegfpfkaa
open Go.RowKit
set_option linter.unusedVariables false
set_option linter.unusedSimpArgs false

def capSum (cs : List Int) (idx : List Nat) : Int := (idx.map fun i => cs.getD i 0).sum
theorem getD_nn {cs : List Int} (hc : allAmt cs = true) (i : Nat) : 0 ≤ cs.getD i 0 := by
  cases h : cs[i]? with
  | none => simp [List.getD_eq_getElem?_getD, h]
  | some c => rw [getD_of h]; exact (allAmt_get hc h).1
theorem capSum_nn {cs : List Int} (hc : allAmt cs = true) : ∀ idx : List Nat, 0 ≤ capSum cs idx
  | [] => by simp [capSum]
  | i :: idx => by
    have := capSum_nn hc idx
    have := getD_nn hc i
    simp only [capSum, List.map_cons, List.sum_cons] at *
    omega
theorem capSum_perm {cs : List Int} {l l' : List Nat} (h : l.Perm l') : capSum cs l = capSum cs l' := by
  induction h with
  | nil => rfl
  | cons x _ ih => simp only [capSum, List.map_cons, List.sum_cons] at *; omega
  | swap x y l => simp only [capSum, List.map_cons, List.sum_cons]; omega
  | trans _ _ h1 h2 => rw [h1, h2]
theorem spB_left {cs : List Int} (hc : allAmt cs = true) : ∀ (idx : List Nat) (s : Int × List Int), 0 ≤ s.1 → (idx.foldl (stepB cs) s).1 = max 0 (s.1 - capSum cs idx)
  | [], s, h => by simp [capSum]; omega
  | i :: idx, s, h => by
    have hg := getD_nn hc i
    have hn := capSum_nn hc idx
    rw [List.foldl_cons, spB_left hc idx _ (by simp only [stepB]; omega)]
    simp only [stepB, capSum, List.map_cons, List.sum_cons] at *
    omega
/-- both orders answer alike -/
theorem split_same (n : Int) (cs : List Int) : (splitF n cs).2 = (splitL n cs).2 := by
  unfold splitF splitL
  by_cases h : capsOk n cs = true
  · rw [if_pos h, if_pos h]
    obtain ⟨hall, hn, _⟩ := capsOk_t h
    have hnb := (amtOk_t hn).1
    have e : (spB cs n (ordOf (keyOf cs) cs.length)).1 = (spB cs n (List.range cs.length)).1 := by
      unfold spB
      rw [spB_left hall _ _ hnb, spB_left hall _ _ hnb, capSum_perm (ord_perm cs.length)]
    unfold resB
    rw [e]
    split <;> rfl
  · rw [if_neg h, if_neg h]

theorem sum_set : ∀ (l : List Int) (i : Nat) (x : Int), l[i]? = some 0 → (l.set i x).sum = l.sum + x
  | [], i, x, h => by simp at h
  | y :: l, 0, x, h => by simp at h; subst h; simp; omega
  | y :: l, i + 1, x, h => by
    simp only [List.set_cons_succ, List.sum_cons, sum_set l i x (by simpa using h)]
    omega
theorem spB_sum {cs : List Int} : ∀ (idx : List Nat) (s : Int × List Int), idx.Nodup → (∀ i ∈ idx, s.2[i]? = some 0) → (idx.foldl (stepB cs) s).1 + (idx.foldl (stepB cs) s).2.sum = s.1 + s.2.sum
  | [], s, _, _ => rfl
  | i :: idx, s, hd, hz => by
    rw [List.nodup_cons] at hd
    rw [List.foldl_cons, spB_sum idx _ hd.2 (fun j hj => by
      have hne : i ≠ j := fun e => hd.1 (e ▸ hj)
      show (s.2.set i _)[j]? = _
      rw [List.getElem?_set_ne hne]
      exact hz j (by simp [hj]))]
    show s.1 - min s.1 (cs.getD i 0) + (s.2.set i (min s.1 (cs.getD i 0))).sum = _
    rw [sum_set _ _ _ (hz i (by simp))]
    omega
theorem spB_total {cs : List Int} {n : Int} {idx : List Nat} (hn : idx.Nodup) (hi : ∀ i ∈ idx, i < cs.length) : (spB cs n idx).1 + (spB cs n idx).2.sum = n := by
  unfold spB
  rw [spB_sum idx _ hn (fun i h => by simp [hi i h])]
  have : (List.replicate cs.length (0 : Int)).sum = 0 := by
    generalize cs.length = k
    induction k with
    | zero => rfl
    | succ k ih => rw [List.replicate_succ, List.sum_cons, ih]; rfl
  simp only [this]
  omega

theorem spB_fit {cs : List Int} (hc : allAmt cs = true) : ∀ (idx : List Nat) (s : Int × List Int), 0 ≤ s.1 → (∀ (i : Nat) (y : Int), s.2[i]? = some y → 0 ≤ y ∧ y ≤ cs.getD i 0) → ∀ (i : Nat) (y : Int), (idx.foldl (stepB cs) s).2[i]? = some y → 0 ≤ y ∧ y ≤ cs.getD i 0
  | [], s, _, h => h
  | j :: idx, s, h0, h => by
    have hg := getD_nn hc j
    rw [List.foldl_cons]
    refine spB_fit hc idx _ (by simp only [stepB]; omega) fun i y hy => ?_
    simp only [stepB] at hy
    rw [List.getElem?_set] at hy
    by_cases e : j = i
    · subst e
      rw [if_pos rfl] at hy
      split at hy
      · cases hy; omega
      · cases hy
    · rw [if_neg e] at hy
      exact h i y hy
theorem spB_fits {cs : List Int} {n : Int} (hc : allAmt cs = true) (hn : 0 ≤ n ∧ n ≤ 1125899906842624) {idx : List Nat} (hi : ∀ i ∈ idx, i < cs.length) : fitsB (spB cs n idx).2 cs = true := by
  have hinv := spB_inv cs n hc hn idx hi
  have hf := spB_fit hc idx (n, List.replicate cs.length 0) hn.1 (fun i y hy => by
    have hm := List.mem_of_getElem? hy
    have := (List.mem_replicate.1 hm).2
    have := getD_nn hc i
    omega)
  unfold fitsB
  rw [decide_eq_true hinv.2.1, Bool.true_and, List.all_eq_true]
  intro p hp
  obtain ⟨k, hk⟩ := List.getElem?_of_mem hp
  rw [List.getElem?_zip_eq_some] at hk
  obtain ⟨h1, h2⟩ := hk
  have h3 := hf k p.1 h1
  rw [getD_of h2] at h3
  have h4 := hinv.2.2 p.1 (List.mem_of_getElem? h1)
  rw [amtOk_t' h4.1 h4.2, Bool.true_and]
  exact decide_eq_true h3.2

theorem sub_take : ∀ {s l : List Int}, s.Sublist l → l.Pairwise (fun x y => y ≤ x) → (∀ x ∈ l, 0 ≤ x) → s.sum ≤ (l.take s.length).sum := by
  intro s l h
  induction h with
  | slnil => intro _ _; simp
  | @cons s l a h ih =>
    intro hp h0
    rw [List.pairwise_cons] at hp
    have h1 := ih hp.2 (fun x hx => h0 x (by simp [hx]))
    cases hk : s.length with
    | zero => rw [hk] at h1; simpa using h1
    | succ k =>
      rw [hk] at h1
      rw [List.take_succ_cons, List.sum_cons]
      have hkl : k < l.length := by have := h.length_le; omega
      rw [List.take_succ_eq_append_getElem hkl, List.sum_append] at h1
      have := hp.1 _ (List.getElem_mem hkl)
      simp at h1
      omega
  | @cons_cons s l a h ih =>
    intro hp h0
    rw [List.pairwise_cons] at hp
    have h1 := ih hp.2 (fun x hx => h0 x (by simp [hx]))
    rw [List.length_cons, List.take_succ_cons, List.sum_cons, List.sum_cons]
    omega

theorem posCount_cons (y : Int) (l : List Int) : posCount (y :: l) = posCount l + (if 0 < y then 1 else 0) := by
  unfold posCount
  rw [List.filter_cons]
  by_cases h : 0 < y
  · rw [if_pos (decide_eq_true h), if_pos h]; rfl
  · rw [if_neg (by simpa using h), if_neg h]; rfl
theorem posCount_set : ∀ (l : List Int) (i : Nat) (x : Int), l[i]? = some 0 → posCount (l.set i x) = posCount l + (if 0 < x then 1 else 0)
  | [], i, x, h => by simp at h
  | y :: l, 0, x, h => by
    simp at h
    subst h
    rw [List.set_cons_zero, posCount_cons, posCount_cons, if_neg (by omega : ¬ (0 : Int) < 0), Nat.add_zero]
  | y :: l, i + 1, x, h => by
    rw [List.set_cons_succ, posCount_cons, posCount_cons, posCount_set l i x (by simpa using h)]
    omega

theorem cnt_le {cs : List Int} : ∀ (idx : List Nat) (s : Int × List Int), idx.Nodup → (∀ i ∈ idx, s.2[i]? = some 0) → posCount (idx.foldl (stepB cs) s).2 ≤ posCount s.2 + idx.length
  | [], s, _, _ => Nat.le_refl _
  | i :: idx, s, hd, hz => by
    rw [List.nodup_cons] at hd
    rw [List.foldl_cons]
    refine Nat.le_trans (cnt_le idx _ hd.2 fun j hj => ?_) ?_
    · have hne : i ≠ j := fun e => hd.1 (e ▸ hj)
      show (s.2.set i _)[j]? = _
      rw [List.getElem?_set_ne hne]
      exact hz j (by simp [hj])
    · show posCount (s.2.set i _) + _ ≤ _
      rw [posCount_set _ _ _ (hz i (by simp)), List.length_cons]
      split <;> omega
theorem cnt_none {cs : List Int} (hc : allAmt cs = true) : ∀ (idx : List Nat) (s : Int × List Int), s.1 = 0 → idx.Nodup → (∀ i ∈ idx, s.2[i]? = some 0) → posCount (idx.foldl (stepB cs) s).2 = posCount s.2
  | [], s, _, _, _ => rfl
  | i :: idx, s, h0, hd, hz => by
    have hg := getD_nn hc i
    rw [List.nodup_cons] at hd
    rw [List.foldl_cons, cnt_none hc idx _ (by simp only [stepB]; omega) hd.2 fun j hj => by
      have hne : i ≠ j := fun e => hd.1 (e ▸ hj)
      show (s.2.set i _)[j]? = _
      rw [List.getElem?_set_ne hne]
      exact hz j (by simp [hj])]
    show posCount (s.2.set i _) = _
    rw [posCount_set _ _ _ (hz i (by simp)), if_neg (by omega)]
    rfl

theorem ord_fall (cs : List Int) : ((ordOf (keyOf cs) cs.length).map fun i => cs.getD i 0).Pairwise (fun x y => y ≤ x) := by
  rw [List.pairwise_map]
  refine (ord_sort (key := keyOf cs) cs.length).imp_of_mem ?_
  intro x y hx hy h
  rw [TB_iff] at h
  unfold keyOf at h
  rw [Nat.mod_eq_of_lt (ord_lt _ x hx), Nat.mod_eq_of_lt (ord_lt _ y hy)] at h
  omega
/-- any places, no more than u of them, hold no more than the first u of the order -/
theorem sub_order {cs : List Int} (hc : allAmt cs = true) (p : Nat → Bool) : capSum cs ((ordOf (keyOf cs) cs.length).filter p) ≤ capSum cs ((ordOf (keyOf cs) cs.length).take ((ordOf (keyOf cs) cs.length).filter p).length) := by
  have h := sub_take (((List.filter_sublist (p := p) (l := ordOf (keyOf cs) cs.length))).map fun i => cs.getD i 0) (ord_fall cs) (fun x hx => by
    obtain ⟨i, _, rfl⟩ := List.mem_map.1 hx
    exact getD_nn hc i)
  rw [List.length_map, ← List.map_take] at h
  exact h

theorem posCount_range : ∀ (xs : List Int), posCount xs = ((List.range xs.length).filter fun i => decide (0 < xs.getD i 0)).length
  | [] => rfl
  | x :: xs => by
    rw [posCount_cons, posCount_range xs, List.length_cons, List.range_succ_eq_map, List.filter_cons, List.filter_map, ]
    by_cases h : 0 < x
    · rw [if_pos h, if_pos (by simpa using h)]
      simp [Function.comp_def]
    · rw [if_neg h, if_neg (by simpa using h)]
      simp [Function.comp_def]

theorem sum_used (x : Nat → Int) (cs : List Int) (h : ∀ i, x i ≤ cs.getD i 0) : ∀ l : List Nat, (l.map x).sum ≤ capSum cs (l.filter fun i => decide (0 < x i))
  | [] => by simp [capSum]
  | i :: l => by
    have ih := sum_used x cs h l
    have hi := h i
    rw [List.map_cons, List.sum_cons, List.filter_cons]
    by_cases hp : 0 < x i
    · rw [if_pos (by simpa using hp)]
      simp only [capSum, List.map_cons, List.sum_cons] at *
      omega
    · rw [if_neg (by simpa using hp)]
      omega
theorem sum_range (xs : List Int) : ((List.range xs.length).map fun i => xs.getD i 0).sum = xs.sum := by
  congr 1
  apply List.ext_getElem
  · simp
  · intro i h1 h2
    simp [h2]

/-- once u of the order cover the amount, no more than u parts are used -/
theorem cnt_cover {cs : List Int} (hc : allAmt cs = true) {n : Int} (hn : 0 ≤ n) {o : List Nat} (hd : o.Nodup) (hi : ∀ i ∈ o, i < cs.length) (u : Nat) (h : n ≤ capSum cs (o.take u)) : posCount (spB cs n o).2 ≤ u := by
  have e : spB cs n o = (o.drop u).foldl (stepB cs) (spB cs n (o.take u)) := by
    unfold spB
    rw [← List.foldl_append, List.take_append_drop]
  have h0 : (spB cs n (o.take u)).1 = 0 := by
    unfold spB
    rw [spB_left hc _ _ hn]
    simp only []
    omega
  have hz : ∀ i ∈ o.drop u, (spB cs n (o.take u)).2[i]? = some 0 := by
    have key : ∀ (l : List Nat) (s : Int × List Int) (j : Nat), j ∉ l → (l.foldl (stepB cs) s).2[j]? = s.2[j]? := by
      intro l
      induction l with
      | nil => intro s j _; rfl
      | cons i l ih =>
        intro s j hj
        rw [List.foldl_cons, ih _ j (fun h => hj (by simp [h]))]
        show (s.2.set i _)[j]? = _
        rw [List.getElem?_set_ne (fun e => hj (by simp [e]))]
    intro i hm
    have hni : i ∉ o.take u := fun h1 => by
      have h2 : (o.take u ++ o.drop u).Nodup := by rw [List.take_append_drop]; exact hd
      exact (List.nodup_append.1 h2).2.2 i h1 i hm rfl
    unfold spB
    rw [key _ _ i hni]
    simp [hi i (List.mem_of_mem_drop hm)]
  rw [e, cnt_none hc _ _ h0 (hd.sublist (List.drop_sublist _ _)) hz]
  refine Nat.le_trans (cnt_le (o.take u) (n, List.replicate cs.length 0) (hd.sublist (List.take_sublist _ _)) (fun i hm => by simp [hi i (List.mem_of_mem_take hm)])) ?_
  have : posCount (List.replicate cs.length (0 : Int)) = 0 := by simp [posCount]
  simp only [this, List.length_take]
  omega

end Go.Proofs.Ytfijgegegfpfkaa
