/- A stable merge: the plain part (one element). -/
import Derived.Sort.LotA
import Derived.Lib.Hide
namespace Go.Proofs.Ytfijgegegfpfkaa
open Go.RowKit
set_option linter.unusedVariables false
set_option linter.unusedSimpArgs false

section
variable (key : Nat → Int)
def gtB (i j : Nat) : Bool := decide (key j < key i)
def TB (i j : Nat) : Bool := decide (key j < key i ∨ (key j = key i ∧ i < j))
end
section
variable {key : Nat → Int}
theorem TB_iff (i j : Nat) : TB key i j = true ↔ (key j < key i ∨ (key j = key i ∧ i < j)) := by unfold TB; rw [decide_eq_true_eq]
theorem TB_trans {i j k : Nat} (h1 : TB key i j = true) (h2 : TB key j k = true) : TB key i k = true := by rw [TB_iff] at *; omega
theorem TB_irr (i : Nat) : TB key i i = false := by unfold TB; exact decide_eq_false (by omega)
theorem TB_swo : Sort.SWO (TB key) := by
  refine ⟨TB_irr, fun x y z => TB_trans, fun x y z h1 h2 => ?_⟩
  have a := of_decide_eq_false h1
  have b := of_decide_eq_false h2
  exact decide_eq_false (by omega)
theorem gt_TB {x y : Nat} (h : x < y) : gtB key y x = TB key y x := by
  unfold gtB TB
  exact decide_eq_decide.2 (by omega)
theorem gt_no {x y : Nat} (h : x < y) (hg : gtB key y x = false) : TB key x y = true := by
  rw [TB_iff]
  have := of_decide_eq_false hg
  omega
theorem gt_yes {x y : Nat} (h : x < y) (hg : gtB key y x = true) : TB key y x = true := by rw [← gt_TB h]; exact hg
/-- sorted on the places from a on, below b -/
def Srt (key : Nat → Int) (d : Array Nat) (a b : Nat) : Prop := ∀ i j, a ≤ i → i < j → j < b → TB key d[i]! d[j]! = true
/-- what lies left of m was there first -/
def LR (d : Array Nat) (a m b : Nat) : Prop := ∀ i j, a ≤ i → i < m → m ≤ j → j < b → d[i]! < d[j]!
theorem Srt.le {d : Array Nat} {a b i j : Nat} {x : Nat} (h : Srt key d a b) (hi : a ≤ i) (hij : i ≤ j) (hj : j < b) (hx : TB key d[j]! x = true) : TB key d[i]! x = true := by
  rcases Nat.lt_or_ge i j with hlt | hge
  · exact TB_trans (h i j hi hlt hj) hx
  · obtain rfl : i = j := by omega
    exact hx
theorem Srt.ge {d : Array Nat} {a b i j : Nat} {x : Nat} (h : Srt key d a b) (hi : a ≤ i) (hij : i ≤ j) (hj : j < b) (hx : TB key x d[i]! = true) : TB key x d[j]! = true := by
  rcases Nat.lt_or_ge i j with hlt | hge
  · exact TB_trans hx (h i j hi hlt hj)
  · obtain rfl : i = j := by omega
    exact hx
theorem Srt.sub {d : Array Nat} {a b a' b' : Nat} (h : Srt key d a b) (h1 : a ≤ a') (h2 : b' ≤ b) : Srt key d a' b' := fun i j hi hij hj => h i j (by omega) hij (by omega)
theorem Srt.one (d : Array Nat) (a b : Nat) (h : b ≤ a + 1) : Srt key d a b := fun i j hi hij hj => by omega
theorem Srt.congr {d d' : Array Nat} {a b : Nat} (h : Srt key d a b) (he : ∀ i, a ≤ i → i < b → d'[i]! = d[i]!) : Srt key d' a b := fun i j hi hij hj => by
  rw [he i hi (by omega), he j (by omega) hj]
  exact h i j hi hij hj
/-- two sorted parts, the first before the second -/
theorem Srt.join {d : Array Nat} {a m b : Nat} (h1 : Srt key d a m) (h2 : Srt key d m b) (hx : ∀ i j, a ≤ i → i < m → m ≤ j → j < b → TB key d[i]! d[j]! = true) : Srt key d a b := fun i j hi hij hj => by
  rcases Nat.lt_or_ge j m with hjm | hjm
  · exact h1 i j hi hij hjm
  · rcases Nat.lt_or_ge i m with him | him
    · exact hx i j hi him hjm hj
    · exact h2 i j him hij hj
/-- what symMerge does -/
def Merged (key : Nat → Int) (a b : Nat) (d d' : Array Nat) : Prop := Sort.PermIn a b d d' ∧ Srt key d' a b

/-! the first element alone -/
def Bub (a k : Nat) (d dk : Array Nat) : Prop := dk.size = d.size ∧ dk[k]! = d[a]! ∧ (∀ t, a ≤ t → t < k → dk[t]! = d[t + 1]!) ∧ (∀ t, t < a ∨ k < t → dk[t]! = d[t]!)
theorem Bub.start (a : Nat) (d : Array Nat) : Bub a a d d := ⟨rfl, rfl, fun t h1 h2 => by omega, fun t _ => rfl⟩
theorem Bub.step {a k : Nat} {d dk : Array Nat} (h : Bub a k d dk) (hak : a ≤ k) (hk : k + 1 < d.size) : Bub a (k + 1) d (Sort.swp dk k (k + 1)) := by
  obtain ⟨hs, h1, h2, h3⟩ := h
  have g := Sort.swp_get dk (i := k) (j := k + 1) (by omega) (by omega)
  refine ⟨by rw [Sort.swp_size, hs], ?_, fun t h4 h5 => ?_, fun t h4 => ?_⟩
  · rw [g, if_pos rfl, h1]
  · rw [g, if_neg (by omega)]
    by_cases e : t = k
    · subst e
      rw [if_pos rfl, h3 (t + 1) (by omega)]
    · rw [if_neg e, h2 t h4 (by omega)]
  · rw [g, if_neg (by omega), if_neg (by omega), h3 t (by omega)]
theorem Bub.perm {a k : Nat} {d dk : Array Nat} (h : Bub a k d dk) (hak : a ≤ k) {b : Nat} (hk : k < b) (hb : b ≤ d.size) : Sort.PermIn a b d dk := by
  induction k generalizing dk with
  | zero =>
    obtain rfl : a = 0 := by omega
    obtain ⟨hs, h1, h2, h3⟩ := h
    have e : dk = d := by
      apply Array.ext hs
      intro i hi hj
      have : dk[i]! = d[i]! := by
        by_cases h0 : i = 0
        · subst h0; exact h1
        · exact h3 i (by omega)
      rwa [getElem!_pos dk i hi, getElem!_pos d i hj] at this
    rw [e]
    exact Sort.permIn_refl d 0 b
  | succ k ih =>
    by_cases e : a = k + 1
    · subst e
      obtain ⟨hs, h1, h2, h3⟩ := h
      have e : dk = d := by
        apply Array.ext hs
        intro i hi hj
        have : dk[i]! = d[i]! := by
          by_cases h0 : i = k + 1
          · subst h0; exact h1
          · exact h3 i (by omega)
        rwa [getElem!_pos dk i hi, getElem!_pos d i hj] at this
      rw [e]
      exact Sort.permIn_refl d _ b
    · have h' : Bub a k d (Sort.swp dk k (k + 1)) := by
        obtain ⟨hs, h1, h2, h3⟩ := h
        have g := Sort.swp_get dk (i := k) (j := k + 1) (by omega) (by omega)
        refine ⟨by rw [Sort.swp_size, hs], ?_, fun t h4 h5 => ?_, fun t h4 => ?_⟩
        · rw [g, if_neg (by omega), if_pos rfl, h1]
        · rw [g, if_neg (by omega), if_neg (by omega), h2 t h4 (by omega)]
        · rw [g]
          by_cases e2 : t = k + 1
          · subst e2
            rw [if_pos rfl, h2 k (by omega) (by omega)]
          · rw [if_neg e2, if_neg (by omega), h3 t (by omega)]
      have p1 := ih h' (by omega) (by omega)
      have p2 := Sort.swp_permIn (Sort.swp dk k (k + 1)) a b k (k + 1) (by omega) (by omega) (by omega) (by omega) (by rw [Sort.swp_size, h.1]; exact hb)
      have e3 : Sort.swp (Sort.swp dk k (k + 1)) k (k + 1) = dk := by
        apply Array.ext (by rw [Sort.swp_size, Sort.swp_size])
        intro i hi hj
        have hsz := h.1
        have g1 := Sort.swp_get (Sort.swp dk k (k + 1)) (i := k) (j := k + 1) (by rw [Sort.swp_size]; omega) (by rw [Sort.swp_size]; omega) i
        have g2 := Sort.swp_get dk (i := k) (j := k + 1) (by omega) (by omega)
        have : (Sort.swp (Sort.swp dk k (k + 1)) k (k + 1))[i]! = dk[i]! := by
          rw [g1, g2, g2, g2]
          by_cases e1 : i = k + 1
          · subst e1; rw [if_pos rfl, if_neg (by omega), if_pos rfl]
          · rw [if_neg e1, if_neg e1]
            by_cases e2 : i = k
            · subst e2; rw [if_pos rfl, if_pos rfl]
            · rw [if_neg e2, if_neg e2]
        rwa [getElem!_pos _ i hi, getElem!_pos dk i hj] at this
      rw [e3] at p2
      exact Sort.permIn_trans _ _ _ a b p1 p2
theorem merged_first {a b i : Nat} {d dk : Array Nat} (hs : Srt key d (a + 1) b) (hi : a + 1 ≤ i) (hib : i ≤ b) (hb : b ≤ d.size)
    (h1 : ∀ t, a + 1 ≤ t → t < i → TB key d[t]! d[a]! = true) (h2 : ∀ t, i ≤ t → t < b → TB key d[a]! d[t]! = true) (h : Bub a (i - 1) d dk) : Merged key a b d dk := by
  refine ⟨h.perm (by omega) (by omega) hb, fun p q hp hpq hq => ?_⟩
  obtain ⟨hsz, e1, e2, e3⟩ := h
  rcases Nat.lt_or_ge p (i - 1) with hp1 | hp1
  · rw [e2 p hp hp1]
    rcases Nat.lt_or_ge q (i - 1) with hq1 | hq1
    · rw [e2 q (by omega) hq1]
      exact hs _ _ (by omega) (by omega) (by omega)
    · by_cases e : q = i - 1
      · rw [e, e1]
        exact h1 _ (by omega) (by omega)
      · rw [e3 q (by omega)]
        exact hs _ _ (by omega) (by omega) hq
  · rw [e3 q (by omega)]
    by_cases e : p = i - 1
    · rw [e, e1]
      exact h2 q (by omega) hq
    · rw [e3 p (by omega)]
      exact hs _ _ (by omega) hpq hq

/-! the last element alone -/
def Bud (k m : Nat) (d dk : Array Nat) : Prop := dk.size = d.size ∧ dk[k]! = d[m]! ∧ (∀ t, k < t → t ≤ m → dk[t]! = d[t - 1]!) ∧ (∀ t, t < k ∨ m < t → dk[t]! = d[t]!)
theorem Bud.start (m : Nat) (d : Array Nat) : Bud m m d d := ⟨rfl, rfl, fun t h1 h2 => by omega, fun t _ => rfl⟩
theorem Bud.step {k m : Nat} {d dk : Array Nat} (h : Bud (k + 1) m d dk) (hkm : k + 1 ≤ m) (hm : m < d.size) : Bud k m d (Sort.swp dk (k + 1) k) := by
  obtain ⟨hs, h1, h2, h3⟩ := h
  have g := Sort.swp_get dk (i := k + 1) (j := k) (by omega) (by omega)
  refine ⟨by rw [Sort.swp_size, hs], ?_, fun t h4 h5 => ?_, fun t h4 => ?_⟩
  · rw [g, if_pos rfl, h1]
  · rw [g, if_neg (by omega)]
    by_cases e : t = k + 1
    · subst e
      rw [if_pos rfl, h3 k (by omega)]
      rfl
    · rw [if_neg e, h2 t (by omega) h5]
  · rw [g, if_neg (by omega), if_neg (by omega), h3 t (by omega)]
theorem Bud.perm {a m b : Nat} (hmb : m < b) : ∀ (n k : Nat) {d dk : Array Nat}, m - k = n → Bud k m d dk → a ≤ k → k ≤ m → b ≤ d.size → Sort.PermIn a b d dk
  | 0, k, d, dk, hn, h, hak, hkm, hb => by
    obtain rfl : k = m := by omega
    obtain ⟨hs, h1, h2, h3⟩ := h
    have e : dk = d := by
      apply Array.ext hs
      intro i hi hj
      have : dk[i]! = d[i]! := by
        by_cases h0 : i = k
        · subst h0; exact h1
        · exact h3 i (by omega)
      rwa [getElem!_pos dk i hi, getElem!_pos d i hj] at this
    rw [e]
    exact Sort.permIn_refl d _ b
  | n + 1, k, d, dk, hn, h, hak, hkm, hb => by
    have hsz := h.1
    have h' : Bud (k + 1) m d (Sort.swp dk (k + 1) k) := by
      obtain ⟨hs, h1, h2, h3⟩ := h
      have g := Sort.swp_get dk (i := k + 1) (j := k) (by omega) (by omega)
      refine ⟨by rw [Sort.swp_size, hs], ?_, fun t h4 h5 => ?_, fun t h4 => ?_⟩
      · rw [g, if_neg (by omega), if_pos rfl, h1]
      · rw [g, if_neg (by omega), if_neg (by omega), h2 t (by omega) h5]
      · rw [g]
        by_cases e2 : t = k
        · subst e2
          rw [if_pos rfl, h2 (t + 1) (by omega) (by omega)]
          rfl
        · rw [if_neg e2, if_neg (by omega), h3 t (by omega)]
    have p1 := Bud.perm (a := a) hmb n (k + 1) (by omega) h' (by omega) (by omega) hb
    have p2 := Sort.swp_permIn (Sort.swp dk (k + 1) k) a b (k + 1) k (by omega) (by omega) (by omega) (by omega) (by rw [Sort.swp_size, hsz]; exact hb)
    have e3 : Sort.swp (Sort.swp dk (k + 1) k) (k + 1) k = dk := by
      apply Array.ext (by rw [Sort.swp_size, Sort.swp_size])
      intro i hi hj
      have g1 := Sort.swp_get (Sort.swp dk (k + 1) k) (i := k + 1) (j := k) (by rw [Sort.swp_size]; omega) (by rw [Sort.swp_size]; omega) i
      have g2 := Sort.swp_get dk (i := k + 1) (j := k) (by omega) (by omega)
      have : (Sort.swp (Sort.swp dk (k + 1) k) (k + 1) k)[i]! = dk[i]! := by
        rw [g1, g2, g2, g2]
        by_cases e1 : i = k
        · subst e1; rw [if_pos rfl, if_neg (by omega), if_pos rfl]
        · rw [if_neg e1, if_neg e1]
          by_cases e2 : i = k + 1
          · subst e2; rw [if_pos rfl, if_pos rfl]
          · rw [if_neg e2, if_neg e2]
      rwa [getElem!_pos _ i hi, getElem!_pos dk i hj] at this
    rw [e3] at p2
    exact Sort.permIn_trans _ _ _ a b p1 p2
theorem merged_last {a m i : Nat} {d dk : Array Nat} (hs : Srt key d a m) (hi : a ≤ i) (him : i ≤ m) (hm : m < d.size)
    (h1 : ∀ t, a ≤ t → t < i → TB key d[t]! d[m]! = true) (h2 : ∀ t, i ≤ t → t < m → TB key d[m]! d[t]! = true) (h : Bud i m d dk) : Merged key a (m + 1) d dk := by
  refine ⟨Bud.perm (by omega) _ i rfl h hi him (by omega), fun p q hp hpq hq => ?_⟩
  obtain ⟨hsz, e1, e2, e3⟩ := h
  rcases Nat.lt_or_ge p i with hp1 | hp1
  · rw [e3 p (by omega)]
    rcases Nat.lt_or_ge q i with hq1 | hq1
    · rw [e3 q (by omega)]
      exact hs _ _ hp hpq (by omega)
    · by_cases e : q = i
      · rw [e, e1]
        exact h1 _ hp hp1
      · rw [e2 q (by omega) (by omega)]
        exact hs _ _ hp (by omega) (by omega)
  · rw [e2 q (by omega) (by omega)]
    by_cases e : p = i
    · rw [e, e1]
      exact h2 _ (by omega) (by omega)
    · rw [e2 p (by omega) (by omega)]
      exact hs _ _ (by omega) (by omega) (by omega)
end

end Go.Proofs.Ytfijgegegfpfkaa
