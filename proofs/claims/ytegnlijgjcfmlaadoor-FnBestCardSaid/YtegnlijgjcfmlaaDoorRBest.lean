/- The best route: the plain law. -/
import Derived.Test.YtegnlijgjcfmlaaDoorRFee
namespace Go.Proofs.YtegnlijgjcfmlaaDoor
open Go.RowKit
set_option linter.unusedVariables false
set_option linter.unusedSimpArgs false

def lessI : List Int → List Int → Bool
  | [], b => !b.isEmpty
  | _ :: _, [] => false
  | x :: a, y :: b => if x = y then lessI a b else decide (x < y)
theorem lessI_eq {a b : List Int} {k : Nat} {x : Int} (ha : a[k]? = some x) (hb : b[k]? = some x) : lessI (a.drop k) (b.drop k) = lessI (a.drop (k + 1)) (b.drop (k + 1)) := by
  have h1 := List.getElem?_eq_some_iff.1 ha
  have h2 := List.getElem?_eq_some_iff.1 hb
  rw [List.drop_eq_getElem_cons h1.1, List.drop_eq_getElem_cons h2.1, h1.2, h2.2]
  simp [lessI]
theorem lessI_ne {a b : List Int} {k : Nat} {x y : Int} (ha : a[k]? = some x) (hb : b[k]? = some y) (h : x ≠ y) : lessI (a.drop k) (b.drop k) = decide (x < y) := by
  have h1 := List.getElem?_eq_some_iff.1 ha
  have h2 := List.getElem?_eq_some_iff.1 hb
  rw [List.drop_eq_getElem_cons h1.1, List.drop_eq_getElem_cons h2.1, h1.2, h2.2]
  simp [lessI, h]
theorem lessI_end {a b : List Int} {k : Nat} (h : a.length ≤ k ∨ b.length ≤ k) (ha : k ≤ a.length) (hb : k ≤ b.length) : lessI (a.drop k) (b.drop k) = decide (a.length < b.length) := by
  rcases Nat.lt_or_ge k a.length with h1 | h1
  · have : b.drop k = [] := List.drop_eq_nil_of_le (by omega)
    rw [this, List.drop_eq_getElem_cons h1]
    exact (decide_eq_false (by omega)).symm
  · have : a.drop k = [] := List.drop_eq_nil_of_le h1
    rw [this]
    rcases Nat.lt_or_ge k b.length with h2 | h2
    · rw [List.drop_eq_getElem_cons h2]
      exact (decide_eq_true (by omega)).symm
    · rw [List.drop_eq_nil_of_le h2]
      exact (decide_eq_false (by omega)).symm
def rFee (l : List Rd) (xs : List Int) (n : Int) : Int := match rAmts l xs n with | [] => 0 | x :: _ => x - n
theorem rFeeS_eq {l : List Rd} {xs : List Int} {n : Int} (h : roadsOk l = true) : rFeeS l xs n = rFee l xs n := by unfold rFeeS rFee; rw [rAmtsS_t h]; cases rAmts l xs n <;> rfl
theorem rFee_t {l : List Rd} {xs : List Int} {n : Int} (h : rOk l xs n = true) : ∃ x L, rAmts l xs n = x :: L ∧ rFee l xs n = x - n ∧ (0 ≤ x ∧ x ≤ 1125899906842624) ∧ (0 ≤ n ∧ n ≤ 1125899906842624) := by
  unfold rFee
  cases h2 : routeAmts l xs n with
  | none => rw [(r_none h2).2] at h; cases h
  | some L =>
    rw [(r_some h2).1]
    have h3 := routeAmts_out h2
    have hn : 0 ≤ n ∧ n ≤ 1125899906842624 := by
      unfold routeAmts at h2
      split at h2
      · rename_i h4; exact amtOk_t h4.2.1
      · cases h2
    cases L with
    | nil => simp at h3; omega
    | cons x L => exact ⟨x, L, rfl, rfl, h3.2.1 x List.mem_cons_self, hn⟩
theorem rFee_bd (l : List Rd) (xs : List Int) (n : Int) : -1125899906842624 ≤ rFee l xs n ∧ rFee l xs n ≤ 1125899906842624 := by
  cases h : rOk l xs n with
  | true =>
    obtain ⟨x, L, hL, hF, hx, hn⟩ := rFee_t h
    rw [hF]; omega
  | false =>
    have : rAmts l xs n = [] := by
      cases h2 : routeAmts l xs n with
      | none => exact (r_none h2).1
      | some L => rw [(r_some h2).2] at h; cases h
    unfold rFee; rw [this]; show -1125899906842624 ≤ (0 : Int) ∧ (0 : Int) ≤ 1125899906842624; omega
def betterB (l : List Rd) (n : Int) (a b : List Int) : Bool :=
  if rFee l a n ≠ rFee l b n then decide (rFee l a n < rFee l b n) else if a.length ≠ b.length then decide (a.length < b.length) else lessI a b
def offerR (l : List Rd) (n : Int) (best next : List Int) : List Int := if rOk l next n = true ∧ (best = [] ∨ betterB l n next best = true) then next else best
theorem offer_no {l : List Rd} {n : Int} {best next : List Int} (h : rOk l next n = false) : offerR l n best next = best := if_neg (by simp [h])
theorem offer_new {l : List Rd} {n : Int} {next : List Int} (h : rOk l next n = true) : offerR l n [] next = next := if_pos ⟨h, .inl rfl⟩
theorem offer_yes {l : List Rd} {n : Int} {best next : List Int} (h : rOk l next n = true) (hb : betterB l n next best = true) : offerR l n best next = next := if_pos ⟨h, .inr hb⟩
theorem offer_keep {l : List Rd} {n : Int} {best next : List Int} (hne : best ≠ []) (hb : betterB l n next best = false) : offerR l n best next = best := if_neg (by simp [hne, hb])
/-- one road tried, from a peer on, where go is the search behind it -/
def tryStep (l : List Rd) (n dst : Int) (go : List Int → List Int → List Int → Int → List Int) (route ps : List Int) (at_ : Int) (best : List Int) (x : Nat) : List Int :=
  match l[x]? with
  | none => best
  | some r => if r.f = at_ ∧ hasB ps r.t = false then (if r.t = dst then offerR l n best (route ++ [(x : Int)]) else go best (route ++ [(x : Int)]) (ps ++ [r.t]) r.t) else best
def tryR (l : List Rd) (n dst : Int) : Nat → List Int → List Int → List Int → Int → List Int
  | 0, best, _, _, _ => best
  | h + 1, best, route, ps, at_ => (List.range l.length).foldl (tryStep l n dst (tryR l n dst h) route ps at_) best
def tryTo (l : List Rd) (n dst : Int) (h : Nat) (best route ps : List Int) (at_ : Int) (k : Nat) : List Int := (List.range k).foldl (tryStep l n dst (tryR l n dst h) route ps at_) best
theorem tryTo_zero (l : List Rd) (n dst : Int) (h : Nat) (best route ps : List Int) (at_ : Int) : tryTo l n dst h best route ps at_ 0 = best := rfl
theorem tryTo_snoc (l : List Rd) (n dst : Int) (h : Nat) (best route ps : List Int) (at_ : Int) (k : Nat) : tryTo l n dst h best route ps at_ (k + 1) = tryStep l n dst (tryR l n dst h) route ps at_ (tryTo l n dst h best route ps at_ k) k := by
  unfold tryTo; rw [List.range_succ, List.foldl_append]; rfl
theorem tryTo_all (l : List Rd) (n dst : Int) (h : Nat) (best route ps : List Int) (at_ : Int) : tryTo l n dst h best route ps at_ l.length = tryR l n dst (h + 1) best route ps at_ := rfl
theorem tryStep_skip {l : List Rd} {n dst : Int} {go : List Int → List Int → List Int → Int → List Int} {route ps best : List Int} {at_ : Int} {k : Nat} {r : Rd} (hr : l[k]? = some r) (h : r.f ≠ at_ ∨ hasB ps r.t = true) : tryStep l n dst go route ps at_ best k = best := by
  unfold tryStep
  rw [hr]
  show (if _ then _ else _) = _
  rw [if_neg]
  rcases h with h | h <;> simp [h]
theorem tryStep_end {l : List Rd} {n dst : Int} {go : List Int → List Int → List Int → Int → List Int} {route ps best : List Int} {at_ : Int} {k : Nat} {r : Rd} (hr : l[k]? = some r) (h : r.f = at_) (h2 : hasB ps r.t = false) (h3 : r.t = dst) : tryStep l n dst go route ps at_ best k = offerR l n best (route ++ [(k : Int)]) := by
  unfold tryStep
  rw [hr]
  show (if _ then _ else _) = _
  rw [if_pos ⟨h, h2⟩, if_pos h3]
theorem tryStep_go {l : List Rd} {n dst : Int} {go : List Int → List Int → List Int → Int → List Int} {route ps best : List Int} {at_ : Int} {k : Nat} {r : Rd} (hr : l[k]? = some r) (h : r.f = at_) (h2 : hasB ps r.t = false) (h3 : r.t ≠ dst) : tryStep l n dst go route ps at_ best k = go best (route ++ [(k : Int)]) (ps ++ [r.t]) r.t := by
  unfold tryStep
  rw [hr]
  show (if _ then _ else _) = _
  rw [if_pos ⟨h, h2⟩, if_neg h3]
/-- the peers that a route has gone by, the last one of them is where it stands -/
def AtR (l : List Rd) (route ps : List Int) (at_ : Int) : Prop := (route = [] ∧ ps = [at_]) ∨ (route ≠ [] ∧ goR l [] route = some ps ∧ ps.getLast? = some at_)
theorem AtR.next {l : List Rd} {route ps : List Int} {at_ : Int} {k : Nat} {r : Rd} (h : AtR l route ps at_) (hr : l[k]? = some r) (hf : r.f = at_) :
    goR l [] (route ++ [(k : Int)]) = if hasB ps r.t = false then some (ps ++ [r.t]) else none := by
  rw [goR_append]
  rcases h with ⟨rfl, rfl⟩ | ⟨hne, hg, hlast⟩
  · show (stepR l [] (k : Int)).bind _ = _
    rw [stepR_in hr, show headR [] r.f = [at_] by rw [hf]; rfl]
    subst hf
    by_cases h2 : hasB [r.f] r.t = false
    · rw [if_pos ⟨rfl, h2⟩, if_pos h2]; rfl
    · rw [if_neg (fun h => h2 h.2), if_neg h2]; rfl
  · rw [hg]
    have hps : ps ≠ [] := by intro h; rw [h] at hlast; cases hlast
    show (stepR l ps (k : Int)).bind _ = _
    rw [stepR_in hr, show headR ps r.f = ps from if_neg hps, hlast, hf]
    by_cases h2 : hasB ps r.t = false
    · rw [if_pos ⟨rfl, h2⟩, if_pos h2]; rfl
    · rw [if_neg (fun h => h2 h.2), if_neg h2]; rfl
theorem AtR.ok {l : List Rd} {route ps : List Int} {at_ : Int} {k : Nat} {r : Rd} (h : AtR l route ps at_) (hr : l[k]? = some r) (hf : r.f = at_) (hlen : route.length < 8) : routeB l (route ++ [(k : Int)]) = !hasB ps r.t := by
  unfold routeB
  rw [h.next hr hf]
  cases hasB ps r.t <;> simp <;> omega
theorem AtR.on {l : List Rd} {route ps : List Int} {at_ : Int} {k : Nat} {r : Rd} (h : AtR l route ps at_) (hr : l[k]? = some r) (hf : r.f = at_) (h2 : hasB ps r.t = false) : AtR l (route ++ [(k : Int)]) (ps ++ [r.t]) r.t := by
  refine .inr ⟨by simp, ?_, by simp⟩
  rw [h.next hr hf, if_pos h2]
theorem tryR_len (l : List Rd) (n dst : Int) : ∀ (h : Nat) (best route ps : List Int) (at_ : Int), best.length ≤ 8 → route.length + h ≤ 8 → (tryR l n dst h best route ps at_).length ≤ 8
  | 0, best, route, ps, at_, hb, hr => hb
  | h + 1, best, route, ps, at_, hb, hr => by
    have : ∀ k, (tryTo l n dst h best route ps at_ k).length ≤ 8 := by
      intro k
      induction k with
      | zero => exact hb
      | succ k ih =>
        rw [tryTo_snoc]
        unfold tryStep
        split
        · exact ih
        · split
          · split
            · unfold offerR
              split
              · simp; omega
              · exact ih
            · exact tryR_len l n dst h _ _ _ _ ih (by simp; omega)
          · exact ih
    exact this l.length
theorem tryR_mem (l : List Rd) (n dst : Int) (hl : l.length ≤ 1048576) : ∀ (h : Nat) (best route ps : List Int) (at_ : Int), (∀ x ∈ best, 0 ≤ x ∧ x < 1048576) → (∀ x ∈ route, 0 ≤ x ∧ x < 1048576) → ∀ x ∈ tryR l n dst h best route ps at_, 0 ≤ x ∧ x < 1048576
  | 0, best, route, ps, at_, hb, hr => hb
  | h + 1, best, route, ps, at_, hb, hr => by
    have : ∀ k, k ≤ l.length → ∀ x ∈ tryTo l n dst h best route ps at_ k, 0 ≤ x ∧ x < 1048576 := by
      intro k
      induction k with
      | zero => exact fun _ => hb
      | succ k ih =>
        intro hk
        have ih := ih (by omega)
        have hnext : ∀ x ∈ route ++ [(k : Int)], 0 ≤ x ∧ x < 1048576 := by
          intro x hx
          rcases List.mem_append.1 hx with hx | hx
          · exact hr x hx
          · simp at hx; omega
        rw [tryTo_snoc]
        unfold tryStep
        split
        · exact ih
        · split
          · split
            · unfold offerR
              split
              · exact hnext
              · exact ih
            · exact tryR_mem l n dst hl h _ _ _ _ ih hnext
          · exact ih
    exact this l.length (Nat.le_refl _)
def bestIn (from_ dst hops : Int) : Bool := inB hops 1 4
noncomputable def bestR (l : List Rd) (from_ dst n hops : Int) : List Int := if roadsOk l = true ∧ inB hops 1 4 = true then tryR l n dst hops.toNat [] [] [from_] from_ else []
theorem bestR_t {l : List Rd} {from_ dst n hops : Int} (h : roadsOk l = true) (h2 : inB hops 1 4 = true) : bestR l from_ dst n hops = tryR l n dst hops.toNat [] [] [from_] from_ := if_pos ⟨h, h2⟩
theorem bestR_f1 {l : List Rd} {from_ dst n hops : Int} (h : roadsOk l = false) : bestR l from_ dst n hops = [] := if_neg (by simp [h])
theorem bestR_f2 {l : List Rd} {from_ dst n hops : Int} (h : inB hops 1 4 = false) : bestR l from_ dst n hops = [] := if_neg (by simp [h])
theorem bestR_len (l : List Rd) (from_ dst n hops : Int) : (bestR l from_ dst n hops).length ≤ 8 := by
  unfold bestR
  split
  · rename_i h
    have := inB_t h.2
    exact tryR_len l n dst _ _ _ _ _ (by simp) (by simp; omega)
  · simp

end Go.Proofs.YtegnlijgjcfmlaaDoor
