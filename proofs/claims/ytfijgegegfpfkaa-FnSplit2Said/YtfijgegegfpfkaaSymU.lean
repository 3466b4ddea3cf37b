/- A stable merge: the plain part. -/
import Derived.Test.YtfijgegegfpfkaaSymT
namespace Go.Proofs.Ytfijgegegfpfkaa
open Go.RowKit
set_option linter.unusedVariables false
set_option linter.unusedSimpArgs false

/-- two rows of n places exchanged -/
def SwR (a b n : Nat) (d d' : Array Nat) : Prop := d'.size = d.size ∧ (∀ t, t < n → d'[a + t]! = d[b + t]!) ∧ (∀ t, t < n → d'[b + t]! = d[a + t]!) ∧ ∀ p, (p < a ∨ a + n ≤ p) → (p < b ∨ b + n ≤ p) → d'[p]! = d[p]!
theorem SwR.start (a b : Nat) (d : Array Nat) : SwR a b 0 d d := ⟨rfl, fun t h => by omega, fun t h => by omega, fun p _ _ => rfl⟩
theorem SwR.step {a b n : Nat} {d dk : Array Nat} (h : SwR a b n d dk) (hab : a + n < b) (hb : b + n < d.size) : SwR a b (n + 1) d (Sort.swp dk (a + n) (b + n)) := by
  obtain ⟨hs, h1, h2, h3⟩ := h
  have g := Sort.swp_get dk (i := a + n) (j := b + n) (by omega) (by omega)
  refine ⟨by rw [Sort.swp_size, hs], fun t ht => ?_, fun t ht => ?_, fun p h4 h5 => ?_⟩
  · rw [g]
    by_cases e : t = n
    · subst e
      rw [if_neg (by omega), if_pos rfl, h3 (b + t) (by omega) (by omega)]
    · by_cases e2 : a + t = b + n
      · omega
      · rw [if_neg e2, if_neg (by omega), h1 t (by omega)]
  · rw [g]
    by_cases e : t = n
    · subst e
      rw [if_pos rfl, h3 (a + t) (by omega) (by omega)]
    · rw [if_neg (by omega), if_neg (by omega), h2 t (by omega)]
  · rw [g, if_neg (by omega), if_neg (by omega), h3 p (by omega) (by omega)]
/-- where the element at p comes from when [a, m) and [m, b) change places -/
def sig (a m b p : Nat) : Nat := if p - a < b - m then m + (p - a) else a + (p - a - (b - m))
def Rot (a m b : Nat) (d d' : Array Nat) : Prop := d'.size = d.size ∧ (∀ p, a ≤ p → p < b → d'[p]! = d[sig a m b p]!) ∧ ∀ p, p < a ∨ b ≤ p → d'[p]! = d[p]!
/-- what is left to do when i and j elements are left -/
def RotL (a m b i j : Nat) (d dk : Array Nat) : Prop := dk.size = d.size ∧ (∀ p, a ≤ p → p < b → (p < m - i ∨ m + j ≤ p) → dk[p]! = d[sig a m b p]!) ∧ (∀ p, m - i ≤ p → p < m + j → dk[sig (m - i) m (m + j) p]! = d[sig a m b p]!) ∧ ∀ p, p < a ∨ b ≤ p → dk[p]! = d[p]!
theorem RotL.start {a m b : Nat} (h1 : a ≤ m) (h2 : m ≤ b) (d : Array Nat) : RotL a m b (m - a) (b - m) d d := by
  refine ⟨rfl, fun p h3 h4 h5 => by omega, fun p h3 h4 => ?_, fun p _ => rfl⟩
  rw [show m - (m - a) = a by omega, show m + (b - m) = b by omega]
theorem RotL.more {a m b i j : Nat} {d dk d' : Array Nat} (h : RotL a m b i j d dk) (hi : i ≤ m - a) (hj : j ≤ b - m) (ham : a ≤ m) (hmb : m ≤ b) (hij : j ≤ i) (hs : SwR (m - i) m j dk d') : RotL a m b (i - j) j d d' := by
  obtain ⟨hz, h1, h2, h3⟩ := h
  obtain ⟨gz, g1, g2, g3⟩ := hs
  refine ⟨by rw [gz, hz], fun p h4 h5 h6 => ?_, fun p h4 h5 => ?_, fun p h4 => ?_⟩
  · by_cases e : p < m - i ∨ m + j ≤ p
    · rw [g3 p (by omega) (by omega)]
      exact h1 p h4 h5 e
    · obtain ⟨t, rfl⟩ : ∃ t, p = m - i + t := ⟨p - (m - i), by omega⟩
      rw [g1 t (by omega), ← h2 (m - i + t) (by omega) (by omega)]
      congr 1
      unfold sig
      rw [if_pos (by omega)]
      omega
  · have e0 := h2 p (by omega) h5
    rw [← e0]
    by_cases e : p - (m - (i - j)) < j
    · obtain ⟨t, ht⟩ : ∃ t, p = m - (i - j) + t := ⟨p - (m - (i - j)), by omega⟩
      have q1 : sig (m - (i - j)) m (m + j) p = m + t := by unfold sig; rw [if_pos (by omega)]; omega
      have q2 : sig (m - i) m (m + j) p = m - i + t := by unfold sig; rw [if_neg (by omega)]; omega
      rw [q1, q2, g2 t (by omega)]
    · have q1 : sig (m - (i - j)) m (m + j) p = p - j := by unfold sig; rw [if_neg (by omega)]; omega
      have q2 : sig (m - i) m (m + j) p = p - j := by unfold sig; rw [if_neg (by omega)]; omega
      rw [q1, q2, g3 (p - j) (by omega) (by omega)]
  · rw [g3 p (by omega) (by omega)]
    exact h3 p h4
theorem RotL.less {a m b i j : Nat} {d dk d' : Array Nat} (h : RotL a m b i j d dk) (hi : i ≤ m - a) (hj : j ≤ b - m) (ham : a ≤ m) (hmb : m ≤ b) (hij : i ≤ j) (hs : SwR (m - i) (m + j - i) i dk d') : RotL a m b i (j - i) d d' := by
  obtain ⟨hz, h1, h2, h3⟩ := h
  obtain ⟨gz, g1, g2, g3⟩ := hs
  refine ⟨by rw [gz, hz], fun p h4 h5 h6 => ?_, fun p h4 h5 => ?_, fun p h4 => ?_⟩
  · by_cases e : p < m - i ∨ m + j ≤ p
    · rw [g3 p (by omega) (by omega)]
      exact h1 p h4 h5 e
    · obtain ⟨t, rfl⟩ : ∃ t, p = m + j - i + t := ⟨p - (m + j - i), by omega⟩
      rw [g2 t (by omega), ← h2 (m + j - i + t) (by omega) (by omega)]
      congr 1
      unfold sig
      rw [if_neg (by omega)]
      omega
  · have e0 := h2 p h4 (by omega)
    rw [← e0]
    by_cases e : p - (m - i) < j - i
    · have q1 : sig (m - i) m (m + (j - i)) p = m + (p - (m - i)) := by unfold sig; rw [if_pos (by omega)]
      have q2 : sig (m - i) m (m + j) p = m + (p - (m - i)) := by unfold sig; rw [if_pos (by omega)]
      rw [q1, q2, g3 _ (by omega) (by omega)]
    · obtain ⟨t, ht⟩ : ∃ t, p - (m - i) = j - i + t := ⟨p - (m - i) - (j - i), by omega⟩
      have q1 : sig (m - i) m (m + (j - i)) p = m - i + t := by unfold sig; rw [if_neg (by omega)]; omega
      have q2 : sig (m - i) m (m + j) p = m + j - i + t := by unfold sig; rw [if_pos (by omega)]; omega
      rw [q1, q2, g1 t (by omega)]
  · rw [g3 p (by omega) (by omega)]
    exact h3 p h4
theorem RotL.done {a m b i : Nat} {d dk : Array Nat} (h : RotL a m b 0 i d dk) (hi : i ≤ b - m) (ham : a ≤ m) (hmb : m ≤ b) : Rot a m b d dk := by
  obtain ⟨hz, h1, h2, h3⟩ := h
  refine ⟨hz, fun p h4 h5 => ?_, h3⟩
  by_cases e : p < m ∨ m + i ≤ p
  · exact h1 p h4 h5 (by omega)
  · rw [← h2 p (by omega) (by omega)]
    congr 1
    unfold sig
    split <;> omega
theorem Rot.none {a m b : Nat} (d : Array Nat) (h : a = m ∨ m = b) : Rot a m b d d := by
  refine ⟨rfl, fun p h1 h2 => ?_, fun p _ => rfl⟩
  congr 1
  unfold sig
  split <;> omega
section
variable {key : Nat → Int}
/-- the search for the place where the two parts are cut -/
def Bsy (key : Nat → Int) (s0 r0 p st r : Nat) (d : Array Nat) : Prop := s0 ≤ st ∧ st ≤ r ∧ r ≤ r0 ∧ (∀ t, s0 ≤ t → t < st → TB key d[t]! d[p - t]! = true) ∧ ∀ t, r ≤ t → t < r0 → TB key d[p - t]! d[t]! = true
structure Cut (a m b s0 r0 p : Nat) : Prop where
  am : a ≤ m
  mb : m ≤ b
  sr : s0 ≤ r0
  as : a ≤ s0
  rm : r0 ≤ m
  mp : m + r0 ≤ p + 1
  pb : p < b + s0
theorem Bsy.start {s0 r0 p : Nat} (h : s0 ≤ r0) (d : Array Nat) : Bsy key s0 r0 p s0 r0 d := ⟨Nat.le_refl _, h, Nat.le_refl _, fun t h1 h2 => by omega, fun t h1 h2 => by omega⟩
theorem Bsy.right {a m b s0 r0 p st r c : Nat} {d : Array Nat} (C : Cut a m b s0 r0 p) (h : Bsy key s0 r0 p st r d) (h1 : Srt key d a m) (h2 : Srt key d m b) (hlr : LR d a m b) (hc : st ≤ c) (hcr : c < r) (hg : gtB key d[p - c]! d[c]! = false) : Bsy key s0 r0 p (c + 1) r d := by
  obtain ⟨c1, c2, c3, c4, c5, c6, c7⟩ := C
  obtain ⟨q1, q2, q3, q4, q5⟩ := h
  refine ⟨by omega, by omega, q3, fun t ht hts => ?_, q5⟩
  have h0 := gt_no (hlr c (p - c) (by omega) (by omega) (by omega) (by omega)) hg
  exact h2.ge (j := p - t) (i := p - c) (by omega) (by omega) (by omega) (h1.le (by omega) (by omega) (by omega) h0)
theorem Bsy.left {a m b s0 r0 p st r c : Nat} {d : Array Nat} (C : Cut a m b s0 r0 p) (h : Bsy key s0 r0 p st r d) (h1 : Srt key d a m) (h2 : Srt key d m b) (hlr : LR d a m b) (hc : st ≤ c) (hcr : c < r) (hg : gtB key d[p - c]! d[c]! = true) : Bsy key s0 r0 p st c d := by
  obtain ⟨c1, c2, c3, c4, c5, c6, c7⟩ := C
  obtain ⟨q1, q2, q3, q4, q5⟩ := h
  refine ⟨q1, hc, by omega, q4, fun t ht hts => ?_⟩
  have h0 := gt_yes (hlr c (p - c) (by omega) (by omega) (by omega) (by omega)) hg
  exact h2.le (i := p - t) (j := p - c) (by omega) (by omega) (by omega) (h1.ge (by omega) (by omega) (by omega) h0)
/-- what stands when the two parts have been cut and turned -/
structure Turned (key : Nat → Int) (a st mid en b : Nat) (d1 : Array Nat) : Prop where
  s1 : Srt key d1 a st
  s2 : Srt key d1 st mid
  l1 : LR d1 a st mid
  s3 : Srt key d1 mid en
  s4 : Srt key d1 en b
  l2 : LR d1 mid en b
  x : ∀ i j, a ≤ i → i < mid → mid ≤ j → j < b → TB key d1[i]! d1[j]! = true
theorem turned {a m b s0 r0 p st mid en : Nat} {d d1 : Array Nat} (C : Cut a m b s0 r0 p) (h : Bsy key s0 r0 p st st d) (h1 : Srt key d a m) (h2 : Srt key d m b) (hlr : LR d a m b)
    (hm : p + 1 = mid + m) (he : en + st = mid + m) (hsm : st ≤ mid) (hs : s0 = a ∨ s0 + b = mid + m) (hr : r0 = m ∨ r0 = mid) (hR : Rot st m en d d1) : Turned key a st mid en b d1 := by
  obtain ⟨c1, c2, c3, c4, c5, c6, c7⟩ := C
  obtain ⟨q1, q2, q3, q4, q5⟩ := h
  obtain ⟨-, r1, r2⟩ := hR
  have v1 : ∀ i, i < st → d1[i]! = d[i]! := fun i hi => r2 i (by omega)
  have v2 : ∀ i, st ≤ i → i < mid → d1[i]! = d[m + (i - st)]! := fun i hi hi2 => by
    rw [r1 i hi (by omega)]
    congr 1
    unfold sig
    rw [if_pos (by omega)]
  have v3 : ∀ i, mid ≤ i → i < en → d1[i]! = d[i - mid + st]! := fun i hi hi2 => by
    rw [r1 i (by omega) hi2]
    congr 1
    unfold sig
    rw [if_neg (by omega)]
    omega
  have v4 : ∀ i, en ≤ i → d1[i]! = d[i]! := fun i hi => r2 i (by omega)
  -- left before right, over the cut
  have k1 : ∀ i j, a ≤ i → i < st → en ≤ j → j < b → TB key d[i]! d[j]! = true := fun i j g1 g2 g3 g4 => by
    have h0 := q4 (st - 1) (by omega) (by omega)
    exact h2.ge (i := p - (st - 1)) (by omega) (by omega) g4 (h1.le g1 (by omega) (by omega) h0)
  have k2 : ∀ i j, st ≤ i → i < m → m ≤ j → j < en → TB key d[j]! d[i]! = true := fun i j g1 g2 g3 g4 => by
    have h0 := q5 st (Nat.le_refl _) (by omega)
    exact h2.le (j := p - st) (by omega) (by omega) (by omega) (h1.ge (by omega) g1 g2 h0)
  refine ⟨fun i j g1 g2 g3 => ?_, fun i j g1 g2 g3 => ?_, fun i j g1 g2 g3 g4 => ?_, fun i j g1 g2 g3 => ?_, fun i j g1 g2 g3 => ?_, fun i j g1 g2 g3 g4 => ?_, fun i j g1 g2 g3 g4 => ?_⟩
  · rw [v1 i (by omega), v1 j g3]
    exact h1 i j g1 g2 (by omega)
  · rw [v2 i g1 (by omega), v2 j (by omega) g3]
    exact h2 _ _ (by omega) (by omega) (by omega)
  · rw [v1 i g2, v2 j g3 g4]
    exact hlr _ _ g1 (by omega) (by omega) (by omega)
  · rw [v3 i g1 (by omega), v3 j (by omega) g3]
    exact h1 _ _ (by omega) (by omega) (by omega)
  · rw [v4 i g1, v4 j (by omega)]
    exact h2 _ _ (by omega) g2 g3
  · rw [v3 i g1 g2, v4 j g3]
    exact hlr _ _ (by omega) (by omega) (by omega) g4
  · rcases Nat.lt_or_ge i st with hi | hi
    · rw [v1 i hi]
      rcases Nat.lt_or_ge j en with hj | hj
      · rw [v3 j g3 hj]
        exact h1 _ _ g1 (by omega) (by omega)
      · rw [v4 j hj]
        exact k1 i j g1 hi hj g4
    · rw [v2 i hi g2]
      rcases Nat.lt_or_ge j en with hj | hj
      · rw [v3 j g3 hj]
        exact k2 _ _ (by omega) (by omega) (by omega) (by omega)
      · rw [v4 j hj]
        exact h2 _ _ (by omega) (by omega) g4
theorem merged_skip {a st b : Nat} {d : Array Nat} (h1 : Srt key d a st) (h2 : Srt key d st b) (h : ¬ (a < st ∧ st < b)) (ha : a ≤ st) (hb : st ≤ b) : Merged key a b d d := by
  refine ⟨Sort.permIn_refl d a b, ?_⟩
  by_cases e : a = st
  · subst e; exact h2
  · obtain rfl : st = b := by omega
    exact h1
theorem merged_both {a st mid en b : Nat} {d d1 d2 d3 : Array Nat} (hb : b ≤ d.size) (ham : a ≤ mid) (hmb : mid ≤ b) (hP : Sort.PermIn a b d d1) (T : Turned key a st mid en b d1) (m1 : Merged key a mid d1 d2) (m2 : Merged key mid b d2 d3) : Merged key a b d d3 := by
  obtain ⟨p1, s1⟩ := m1
  obtain ⟨p2, s2⟩ := m2
  have z1 := hP.1
  have z2 := p1.1
  have z3 := p2.1
  refine ⟨Sort.permIn_trans _ _ _ a b (Sort.permIn_trans _ _ _ a b hP (Sort.permIn_mono _ _ a mid a b (Nat.le_refl _) hmb (by omega) p1)) (Sort.permIn_mono _ _ mid b a b ham (Nat.le_refl _) (by omega) p2), ?_⟩
  refine Srt.join (m := mid) (s1.congr fun i h1 h2 => p2.2.1 i (.inl h2)) s2 fun i j g1 g2 g3 g4 => ?_
  rw [p2.2.1 i (.inl g2)]
  have q1 : ∀ j, mid ≤ j → j < b → TB key d2[i]! d3[j]! = true := by
    refine Sort.permIn_all d2 d3 mid b (fun y => TB key d2[i]! y = true) (by omega) p2 fun j g3 g4 => ?_
    rw [p1.2.1 j (.inr g3)]
    exact Sort.permIn_all d1 d2 a mid (fun x => TB key x d1[j]! = true) (by omega) p1 (fun i g1 g2 => T.x i j g1 g2 g3 g4) i g1 g2
  exact q1 j g3 g4
/-- the second merge's own conditions hold behind the first -/
theorem turned_next {a st mid en b : Nat} {d1 d2 : Array Nat} (T : Turned key a st mid en b d1) (m1 : Merged key a mid d1 d2) (hme : mid ≤ en) : Srt key d2 mid en ∧ Srt key d2 en b ∧ LR d2 mid en b := by
  have e : ∀ i, mid ≤ i → d2[i]! = d1[i]! := fun i hi => m1.1.2.1 i (.inr hi)
  refine ⟨T.s3.congr fun i h1 h2 => e i h1, T.s4.congr fun i h1 h2 => e i (by omega), fun i j g1 g2 g3 g4 => ?_⟩
  rw [e i g1, e j (by omega)]
  exact T.l2 i j g1 g2 g3 g4
theorem merged_cond {a m b : Nat} {d d' : Array Nat} (h : Merged key a m d d') : ∀ i, m ≤ i → d'[i]! = d[i]! := fun i hi => h.1.2.1 i (.inr hi)

/-! the insertion sort keeps the order of those that are alike -/
theorem insInner_TB (a : Nat) : ∀ (j : Nat) (d : Array Nat), j < d.size → (∀ t, a ≤ t → t < j → d[t]! < d[j]!) → Sort.insInner (gtB key) a j d = Sort.insInner (TB key) a j d
  | 0, d, _, _ => rfl
  | j + 1, d, hj, h => by
    unfold Sort.insInner
    by_cases ha : j + 1 > a
    · rw [gt_TB (h j (by omega) (by omega))]
      have ih := insInner_TB a j (Sort.swp d (j + 1) j) (by rw [Sort.swp_size]; omega) fun t h1 h2 => by
        have g := Sort.swp_get d (i := j + 1) (j := j) hj (by omega)
        rw [g, g, if_neg (by omega), if_neg (by omega), if_pos rfl]
        exact h t h1 (by omega)
      rw [ih]
    · rw [decide_eq_false ha]
      rfl
/-- from i on nothing has moved; what lies before came from before -/
def Fresh (a i b : Nat) (d : Array Nat) : Prop := (∀ t u, a ≤ t → t < i → i ≤ u → u < b → d[t]! < d[u]!) ∧ ∀ t u, i ≤ t → t < u → u < b → d[t]! < d[u]!
theorem insOuter_TB (a b : Nat) : ∀ (n i : Nat) (d : Array Nat), b - i = n → a < i → b ≤ d.size → Srt key d a i → Fresh a i b d → Sort.insOuter (gtB key) a b i d = Sort.insOuter (TB key) a b i d
  | 0, i, d, hn, _, _, _, _ => by
    have e : ∀ lt, Sort.insOuter lt a b i d = d := fun lt => by rw [Sort.insOuter, if_neg (by omega)]
    rw [e, e]
  | n + 1, i, d, hn, hai, hb, hs, hF => by
    have hlt : i < b := by omega
    have e0 : ∀ lt, Sort.insOuter lt a b i d = Sort.insOuter lt a b (i + 1) (Sort.insInner lt a i d) := fun lt => by rw [Sort.insOuter, if_pos hlt]
    rw [e0, e0]
    have e := insInner_TB (key := key) a i d (by omega) (fun t h1 h2 => hF.1 t i h1 h2 (Nat.le_refl _) hlt)
    rw [e]
    have hS2 : Sort.SortedIn (TB key) a i d := fun p q h1 h2 h3 => by
      have := hs p q h1 h2 h3
      exact Sort.SWO.asymmA TB_swo this
    have h1 := Sort.insInner_spec TB_swo Sort.swp_permIn Sort.permIn_refl Sort.permIn_trans a b i hlt i d (by omega) (Nat.le_refl _) hb ⟨fun p q hap hpq hqi _ hq => hS2 p q hap hpq (by omega), fun q h1 h2 => by omega⟩
    have h2 := Sort.insInner_spec TB_swo Sort.swp_permIn Sort.permIn_refl Sort.permIn_trans a (i + 1) i (by omega) i d (by omega) (Nat.le_refl _) (by omega) ⟨fun p q hap hpq hqi _ hq => hS2 p q hap hpq (by omega), fun q h1 h2 => by omega⟩
    obtain ⟨hp, hso⟩ := h2
    generalize Sort.insInner (TB key) a i d = d' at hp hso e
    have hz := hp.1
    have hk : ∀ u, i + 1 ≤ u → d'[u]! = d[u]! := fun u hu => hp.2.1 u (.inr hu)
    have hF' : Fresh a (i + 1) b d' := by
      refine ⟨fun t u g1 g2 g3 g4 => ?_, fun t u g1 g2 g3 => ?_⟩
      · rw [hk u g3]
        refine Sort.permIn_all d d' a (i + 1) (fun x => x < d[u]!) (by omega) hp (fun t q1 q2 => ?_) t g1 g2
        by_cases e : t = i
        · subst e; exact hF.2 t u (Nat.le_refl _) (by omega) g4
        · exact hF.1 t u q1 (by omega) (by omega) g4
      · rw [hk t g1, hk u (by omega)]
        exact hF.2 t u (by omega) g2 g3
    have hd : ∀ p q, a ≤ p → p < q → q < i + 1 → d'[p]! ≠ d'[q]! := by
      intro p q g1 g2 g3 e
      have hnd : ((d.extract a (i + 1)).toList).Nodup := by
        rw [Sort.extract_toList d a (i + 1) (by omega)]
        refine List.Pairwise.map _ (R := fun x y => x < y ∧ a ≤ x ∧ y < i + 1) (fun x y hxy => ?_) ?_
        · obtain ⟨z1, z2, z3⟩ := hxy
          by_cases ey : y = i
          · subst ey
            have := hF.1 x y z2 z1 (Nat.le_refl _) hlt
            omega
          · have := hs x y z2 z1 (by omega)
            intro e2
            rw [e2, TB_irr] at this
            cases this
        · rw [List.pairwise_iff_getElem]
          intro x y hx hy hxy
          simp only [List.length_range'] at hx hy
          simp only [List.getElem_range']
          omega
      have hnd2 := hp.2.2.symm.nodup hnd
      rw [Sort.extract_toList d' a (i + 1) (by omega)] at hnd2
      have := List.pairwise_iff_getElem.1 hnd2 (p - a) (q - a) (by simp; omega) (by simp; omega) (by omega)
      simp only [List.getElem_map, List.getElem_range', Nat.one_mul] at this
      rw [show a + (p - a) = p by omega, show a + (q - a) = q by omega] at this
      exact this e
    have hs' : Srt key d' a (i + 1) := fun p q g1 g2 g3 => by
      have h0 := hso p q g1 g2 g3
      have hne := hd p q g1 g2 g3
      have := of_decide_eq_false h0
      rw [TB_iff]
      omega
    exact insOuter_TB a b n (i + 1) d' (by omega) (by omega) (by omega) hs' hF'
end

end Go.Proofs.Ytfijgegegfpfkaa
