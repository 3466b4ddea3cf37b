/- The best route: nothing of one road or of two is cheaper: the plain law. -/
import Derived.Test.YtegnlijgjcfmlaaDoorRBest
namespace Go.Proofs.YtegnlijgjcfmlaaDoor
open Go.RowKit
set_option linter.unusedVariables false
set_option linter.unusedSimpArgs false

/-- what is known of a route that was found -/
def GoodR (l : List Rd) (n fr dst : Int) (hops : Nat) (B : List Int) : Prop :=
  B ≠ [] → rOk l B n = true ∧ B.length ≤ hops ∧ (∃ (z : Nat) (r : Rd), B[0]? = some (z : Int) ∧ l[z]? = some r ∧ r.f = fr) ∧ ∃ (z : Nat) (r : Rd), B.getLast? = some (z : Int) ∧ l[z]? = some r ∧ r.t = dst
def HeadOk (l : List Rd) (fr at_ : Int) (route : List Int) : Prop := (route = [] ∧ at_ = fr) ∨ ∃ (z : Nat) (r : Rd), route[0]? = some (z : Int) ∧ l[z]? = some r ∧ r.f = fr
theorem HeadOk.on {l : List Rd} {fr at_ : Int} {route : List Int} {k : Nat} {r : Rd} (h : HeadOk l fr at_ route) (hr : l[k]? = some r) (hf : r.f = at_) (at' : Int) : HeadOk l fr at' (route ++ [(k : Int)]) ∧ ∃ (z : Nat) (r : Rd), (route ++ [(k : Int)])[0]? = some (z : Int) ∧ l[z]? = some r ∧ r.f = fr := by
  have : ∃ (z : Nat) (r : Rd), (route ++ [(k : Int)])[0]? = some (z : Int) ∧ l[z]? = some r ∧ r.f = fr := by
    rcases h with ⟨rfl, rfl⟩ | ⟨z, r', h1, h2, h3⟩
    · exact ⟨k, r, rfl, hr, hf⟩
    · refine ⟨z, r', ?_, h2, h3⟩
      have hl := (List.getElem?_eq_some_iff.1 h1).1
      rw [List.getElem?_append_left hl]; exact h1
  exact ⟨.inr this, this⟩
theorem tryR_good (l : List Rd) (n fr dst : Int) (hops : Nat) : ∀ (h : Nat) (best route ps : List Int) (at_ : Int), GoodR l n fr dst hops best → HeadOk l fr at_ route → route.length + h ≤ hops → GoodR l n fr dst hops (tryR l n dst h best route ps at_)
  | 0, best, route, ps, at_, hb, _, _ => hb
  | h + 1, best, route, ps, at_, hb, hh, hl => by
    have : ∀ k, GoodR l n fr dst hops (tryTo l n dst h best route ps at_ k) := by
      intro k
      induction k with
      | zero => exact hb
      | succ k ih =>
        rw [tryTo_snoc]
        unfold tryStep
        cases hr : l[k]? with
        | none => exact ih
        | some r =>
          simp only
          split
          · rename_i hc
            obtain ⟨ho, hx⟩ := hh.on hr hc.1 r.t
            split
            · rename_i ht
              unfold offerR
              split
              · rename_i hof
                intro _
                exact ⟨hof.1, by simp; omega, hx, k, r, by simp, hr, ht⟩
              · exact ih
            · exact tryR_good l n fr dst hops h _ _ _ _ ih ho (by simp; omega)
          · exact ih
    exact this l.length
/-- a route is dominated: one that is no dearer is held -/
def Dom (l : List Rd) (n c : Int) (B : List Int) : Prop := B ≠ [] ∧ rFee l B n ≤ c
theorem betterB_le {l : List Rd} {n : Int} {a b : List Int} (h : betterB l n a b = true) : rFee l a n ≤ rFee l b n := by
  unfold betterB at h
  split at h
  · have := of_decide_eq_true h; omega
  · rename_i h1; omega
theorem offer_dom {l : List Rd} {n c : Int} {best next : List Int} (hne : next ≠ []) (h : Dom l n c best) : Dom l n c (offerR l n best next) := by
  unfold offerR
  split
  · rename_i ho
    refine ⟨hne, ?_⟩
    rcases ho.2 with h0 | h0
    · exact absurd h0 h.1
    · have := betterB_le h0; have := h.2; omega
  · exact h
theorem offer_new_dom {l : List Rd} {n : Int} {best next : List Int} (hne : next ≠ []) (hok : rOk l next n = true) : Dom l n (rFee l next n) (offerR l n best next) := by
  unfold offerR
  split
  · exact ⟨hne, Int.le_refl _⟩
  · rename_i ho
    have hb : best ≠ [] := fun h => ho ⟨hok, .inl h⟩
    have hn : betterB l n next best ≠ true := fun h => ho ⟨hok, .inr h⟩
    refine ⟨hb, ?_⟩
    unfold betterB at hn
    split at hn
    · rename_i h1
      have : ¬ (rFee l next n < rFee l best n) := fun h => hn (decide_eq_true h)
      omega
    · rename_i h1; omega
theorem tryR_dom (l : List Rd) (n dst c : Int) : ∀ (h : Nat) (best route ps : List Int) (at_ : Int), Dom l n c best → Dom l n c (tryR l n dst h best route ps at_)
  | 0, best, route, ps, at_, hb => hb
  | h + 1, best, route, ps, at_, hb => by
    have : ∀ k, Dom l n c (tryTo l n dst h best route ps at_ k) := by
      intro k
      induction k with
      | zero => exact hb
      | succ k ih =>
        rw [tryTo_snoc]
        unfold tryStep
        split
        · exact ih
        · split
          · split
            · exact offer_dom (by simp) ih
            · exact tryR_dom l n dst c h _ _ _ _ ih
          · exact ih
    exact this l.length
theorem tryTo_dom (l : List Rd) (n dst c : Int) (h : Nat) (best route ps : List Int) (at_ : Int) (k : Nat) (hk : Dom l n c (tryTo l n dst h best route ps at_ k)) : ∀ j, Dom l n c (tryTo l n dst h best route ps at_ (k + j))
  | 0 => hk
  | j + 1 => by
    rw [show k + (j + 1) = k + j + 1 from rfl, tryTo_snoc]
    have ih := tryTo_dom l n dst c h best route ps at_ k hk j
    unfold tryStep
    split
    · exact ih
    · split
      · split
        · exact offer_dom (by simp) ih
        · exact tryR_dom l n dst c h _ _ _ _ ih
      · exact ih
theorem tryR_of_step {l : List Rd} {n dst c : Int} {h : Nat} {best route ps : List Int} {at_ : Int} {k : Nat} (hk : k < l.length) (hd : Dom l n c (tryTo l n dst h best route ps at_ (k + 1))) : Dom l n c (tryR l n dst (h + 1) best route ps at_) := by
  have := tryTo_dom l n dst c h best route ps at_ (k + 1) hd (l.length - (k + 1))
  rw [show k + 1 + (l.length - (k + 1)) = l.length by omega, tryTo_all] at this
  exact this
theorem routeB_cut {l : List Rd} {xs : List Int} (h : routeB l xs = true) : (goR l [] xs).isSome = true := by
  unfold routeB at h
  simp only [Bool.and_eq_true] at h
  exact h.2
theorem rOk_routeB {l : List Rd} {xs : List Int} {n : Int} (h : rOk l xs n = true) : routeB l xs = true := by
  cases hr : routeAmts l xs n with
  | none => rw [(r_none hr).2] at h; cases h
  | some L =>
    unfold routeAmts at hr
    split at hr
    · rename_i h4; exact h4.1
    · cases hr
/-- a route of one road -/
theorem go_one {l : List Rd} {i : Nat} {x : Rd} (hx : l[i]? = some x) (h : (goR l [] [(i : Int)]).isSome = true) : hasB [x.f] x.t = false := by
  have e : goR l [] [(i : Int)] = (stepR l [] (i : Int)).bind fun ps' => goR l ps' [] := rfl
  rw [e, stepR_in hx, show headR [] x.f = [x.f] from rfl] at h
  cases hb : hasB [x.f] x.t with
  | false => rfl
  | true => rw [hb] at h; simp at h
/-- a route of two roads -/
theorem go_two {l : List Rd} {i k : Nat} {x y : Rd} (hx : l[i]? = some x) (hy : l[k]? = some y) (h : (goR l [] [(i : Int), (k : Int)]).isSome = true) : hasB [x.f] x.t = false ∧ y.f = x.t ∧ hasB [x.f, x.t] y.t = false := by
  have e : goR l [] [(i : Int), (k : Int)] = (stepR l [] (i : Int)).bind fun ps' => (stepR l ps' (k : Int)).bind fun q => goR l q [] := rfl
  rw [e, stepR_in hx, show headR [] x.f = [x.f] from rfl] at h
  cases hb : hasB [x.f] x.t with
  | true => rw [hb] at h; simp at h
  | false =>
    refine ⟨rfl, ?_⟩
    rw [if_pos ⟨by simp, hb⟩] at h
    have h : ((stepR l ([x.f] ++ [x.t]) (k : Int)).bind fun q => goR l q []).isSome = true := h
    rw [stepR_in hy, show headR ([x.f] ++ [x.t]) y.f = [x.f, x.t] from rfl] at h
    by_cases hc : ([x.f, x.t].getLast? = some y.f ∧ hasB [x.f, x.t] y.t = false)
    · exact ⟨by have := hc.1; simp at this; exact this.symm, hc.2⟩
    · rw [if_neg hc] at h; simp at h
theorem bestR_good {l : List Rd} {fr dst n hops : Int} (hne : bestR l fr dst n hops ≠ []) : roadsOk l = true ∧ (1 ≤ hops ∧ hops ≤ 4) ∧ GoodR l n fr dst hops.toNat (bestR l fr dst n hops) := by
  have h1 : roadsOk l = true ∧ inB hops 1 4 = true := by
    unfold bestR at hne
    split at hne
    · rename_i h; exact h
    · exact absurd rfl hne
  refine ⟨h1.1, inB_t h1.2, ?_⟩
  rw [bestR_t h1.1 h1.2]
  exact tryR_good l n fr dst hops.toNat _ _ _ _ _ (fun h => absurd rfl h) (.inl ⟨rfl, rfl⟩) (by simp)
theorem bestR_one {l : List Rd} {fr dst n hops : Int} {i : Nat} {x : Rd} (hro : roadsOk l = true) (hh : inB hops 1 4 = true) (hx : l[i]? = some x) (hf : x.f = fr) (ht : x.t = dst) (hok : rOk l [(i : Int)] n = true) : rFee l (bestR l fr dst n hops) n ≤ rFee l [(i : Int)] n := by
  have hb := inB_t hh
  obtain ⟨m, hm⟩ : ∃ m, hops.toNat = m + 1 := ⟨hops.toNat - 1, by omega⟩
  have h1 := go_one hx (routeB_cut (rOk_routeB hok))
  rw [bestR_t hro hh, hm]
  refine (tryR_of_step (k := i) (List.getElem?_eq_some_iff.1 hx).1 ?_).2
  rw [tryTo_snoc, tryStep_end hx hf (by rw [← hf]; exact h1) ht]
  exact offer_new_dom (by simp) hok
theorem bestR_two {l : List Rd} {fr dst n hops : Int} {i k : Nat} {x y : Rd} (hro : roadsOk l = true) (hh : inB hops 1 4 = true) (hx : l[i]? = some x) (hy : l[k]? = some y) (hf : x.f = fr) (ht : y.t = dst) (h2 : 1 < hops) (hok : rOk l [(i : Int), (k : Int)] n = true) : rFee l (bestR l fr dst n hops) n ≤ rFee l [(i : Int), (k : Int)] n := by
  have hb := inB_t hh
  obtain ⟨m, hm⟩ : ∃ m, hops.toNat = m + 1 + 1 := ⟨hops.toNat - 2, by omega⟩
  obtain ⟨h1, h3, h4⟩ := go_two hx hy (routeB_cut (rOk_routeB hok))
  have hne : x.t ≠ dst := by
    intro e
    rw [ht, ← e] at h4
    simp [hasB] at h4
  rw [bestR_t hro hh, hm]
  refine (tryR_of_step (k := i) (List.getElem?_eq_some_iff.1 hx).1 ?_).2
  rw [tryTo_snoc, tryStep_go hx hf (by rw [← hf]; exact h1) hne]
  refine tryR_of_step (k := k) (List.getElem?_eq_some_iff.1 hy).1 ?_
  rw [tryTo_snoc, tryStep_end hy h3 (by rw [← hf]; exact h4) ht]
  exact offer_new_dom (by simp) hok

end Go.Proofs.YtegnlijgjcfmlaaDoor
