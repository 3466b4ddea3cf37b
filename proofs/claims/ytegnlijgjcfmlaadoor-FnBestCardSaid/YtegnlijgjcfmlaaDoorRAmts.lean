/- Amounts over a route: the plain law. -/
import Derived.Test.YtegnlijgjcfmlaaDoorFee
import Derived.Test.YtegnlijgjcfmlaaDoorWRouteOk
namespace Go.Proofs.YtegnlijgjcfmlaaDoor
open Go.RowKit
set_option linter.unusedVariables false
set_option linter.unusedSimpArgs false

def chgB (r : Rd) (n : Int) : Bool := feeB r.b r.p n true && addOk n (feeV r.b r.p n true)
def amtsR : List Rd → Int → List Int → Option (List Int)
  | [], _, acc => some acc
  | r :: rest, n, acc => if r.c < n then none else match rest with
    | [] => some (n :: acc)
    | _ :: _ => if chgB r n = true then amtsR rest (n + feeV r.b r.p n true) (n :: acc) else none
def amtsN (r : Rd) (n : Int) (rest : List Rd) (acc : List Int) : Option (List Int) := match rest with
    | [] => some acc
    | _ :: _ => if chgB r n = true then amtsR rest (n + feeV r.b r.p n true) acc else none
theorem amtsR_over {r : Rd} {rest : List Rd} {n : Int} {acc : List Int} (h : r.c < n) : amtsR (r :: rest) n acc = none := by unfold amtsR; rw [if_pos h]
theorem amtsR_cons {r : Rd} {rest : List Rd} {n : Int} {acc : List Int} (h : ¬ r.c < n) : amtsR (r :: rest) n acc = amtsN r n rest (n :: acc) := by
  unfold amtsR; rw [if_neg h]; cases rest <;> rfl
theorem amtsN_nil (r : Rd) (n : Int) (acc : List Int) : amtsN r n [] acc = some acc := rfl
theorem amtsN_t {r q : Rd} {rest : List Rd} {n : Int} {acc : List Int} (h : chgB r n = true) : amtsN r n (q :: rest) acc = amtsR (q :: rest) (n + feeV r.b r.p n true) acc := by
  show (if chgB r n = true then _ else _) = _; rw [if_pos h]
theorem amtsN_f {r q : Rd} {rest : List Rd} {n : Int} {acc : List Int} (h : chgB r n = false) : amtsN r n (q :: rest) acc = none := by
  show (if chgB r n = true then _ else _) = _; rw [h]; rfl
theorem chgB_bd {r : Rd} {n : Int} (h : chgB r n = true) : 0 ≤ n + feeV r.b r.p n true ∧ n + feeV r.b r.p n true ≤ 1125899906842624 := by
  simp only [chgB, Bool.and_eq_true] at h
  have := addOk_t h.2
  omega
/-- what comes out: as many as there are roads, all of them amounts, the last one the amount that arrives -/
theorem amtsR_out : ∀ (rs : List Rd) (n : Int) (acc L : List Int), (0 ≤ n ∧ n ≤ 1125899906842624) → (∀ x ∈ acc, 0 ≤ x ∧ x ≤ 1125899906842624) → amtsR rs n acc = some L →
    L.length = rs.length + acc.length ∧ (∀ x ∈ L, 0 ≤ x ∧ x ≤ 1125899906842624)
  | [], n, acc, L, hn, ha, h => by
    injection h with h; subst h; exact ⟨by simp, ha⟩
  | r :: rest, n, acc, L, hn, ha, h => by
    have ha2 : ∀ x ∈ n :: acc, 0 ≤ x ∧ x ≤ 1125899906842624 := by
      intro x hx
      rcases List.mem_cons.1 hx with rfl | hx
      · exact hn
      · exact ha x hx
    by_cases hc : r.c < n
    · rw [amtsR_over hc] at h; cases h
    · rw [amtsR_cons hc] at h
      cases rest with
      | nil =>
        rw [amtsN_nil] at h
        injection h with h; subst h
        exact ⟨by simp; omega, ha2⟩
      | cons q rest =>
        cases hb : chgB r n with
        | false => rw [amtsN_f hb] at h; cases h
        | true =>
          rw [amtsN_t hb] at h
          have := amtsR_out (q :: rest) _ _ L (chgB_bd hb) ha2 h
          exact ⟨by rw [this.1]; simp; omega, this.2⟩
/-- the roads of a route -/
def rdsOf (l : List Rd) (xs : List Int) : List Rd := xs.map fun x => (l[x.toNat]?).getD ⟨0, 0, 0, 0, 0⟩
theorem rdsOf_len (l : List Rd) (xs : List Int) : (rdsOf l xs).length = xs.length := by simp [rdsOf]
theorem rdsOf_get {l : List Rd} {xs : List Int} {k y : Nat} {r : Rd} (h : xs[k]? = some (y : Int)) (hr : l[y]? = some r) : (rdsOf l xs)[k]? = some r := by
  unfold rdsOf
  rw [List.getElem?_map, h]
  simp [hr]
def routeAmts (l : List Rd) (xs : List Int) (n : Int) : Option (List Int) := if routeB l xs = true ∧ amtOk n = true ∧ n ≠ 0 then amtsR (rdsOf l xs).reverse n [] else none
theorem goR_in {l : List Rd} : ∀ (xs ps ps' : List Int), goR l ps xs = some ps' → ∀ (k : Nat) (x : Int), xs[k]? = some x → ∃ (y : Nat) (r : Rd), x = (y : Int) ∧ l[y]? = some r
  | [], ps, ps', h, k, x, hx => by simp at hx
  | z :: xs, ps, ps', h, k, x, hx => by
    have h' : (stepR l ps z).bind (fun ps' => goR l ps' xs) = some ps' := h
    cases hs : stepR l ps z with
    | none => rw [hs] at h'; cases h'
    | some q =>
      rw [hs] at h'
      cases k with
      | zero =>
        simp at hx
        subst hx
        unfold stepR at hs
        split at hs
        · rename_i h0
          obtain ⟨y, rfl⟩ := Int.eq_ofNat_of_zero_le h0
          cases hy : l[y]? with
          | none =>
            have : l[((y : Nat) : Int).toNat]? = none := hy
            rw [this] at hs; cases hs
          | some r => exact ⟨y, r, rfl, hy⟩
        · cases hs
      | succ k => exact goR_in xs q ps' h' k x (by simpa using hx)
theorem routeB_in {l : List Rd} {xs : List Int} (h : routeB l xs = true) : 1 ≤ xs.length ∧ xs.length ≤ 8 ∧ ∀ (k : Nat) (x : Int), xs[k]? = some x → ∃ (y : Nat) (r : Rd), x = (y : Int) ∧ l[y]? = some r := by
  unfold routeB at h
  rw [Bool.and_eq_true] at h
  have h1 := of_decide_eq_true h.1
  obtain ⟨ps, hps⟩ := Option.isSome_iff_exists.1 h.2
  exact ⟨h1.1, h1.2, goR_in xs [] ps hps⟩
theorem routeAmts_out {l : List Rd} {xs : List Int} {n : Int} {L : List Int} (h : routeAmts l xs n = some L) : L.length = xs.length ∧ (∀ x ∈ L, 0 ≤ x ∧ x ≤ 1125899906842624) ∧ 1 ≤ xs.length ∧ xs.length ≤ 8 := by
  unfold routeAmts at h
  split at h
  · rename_i h1
    have h2 := amtsR_out _ _ _ _ (amtOk_t h1.2.1) (by simp) h
    have h3 := routeB_in h1.1
    refine ⟨?_, h2.2, h3.1, h3.2.1⟩
    rw [h2.1]; simp [rdsOf_len]
  · cases h
def rAmts (l : List Rd) (xs : List Int) (n : Int) : List Int := (routeAmts l xs n).getD []
def rOk (l : List Rd) (xs : List Int) (n : Int) : Bool := (routeAmts l xs n).isSome
theorem r_none {l : List Rd} {xs : List Int} {n : Int} (h : routeAmts l xs n = none) : rAmts l xs n = [] ∧ rOk l xs n = false := by simp [rAmts, rOk, h]
theorem r_some {l : List Rd} {xs : List Int} {n : Int} {L : List Int} (h : routeAmts l xs n = some L) : rAmts l xs n = L ∧ rOk l xs n = true := by simp [rAmts, rOk, h]
theorem rAmts_bd (l : List Rd) (xs : List Int) (n : Int) : ∀ x ∈ rAmts l xs n, -9223372036854775808 ≤ x ∧ x ≤ 9223372036854775807 := by
  cases h : routeAmts l xs n with
  | none => rw [(r_none h).1]; simp
  | some L =>
    rw [(r_some h).1]
    intro x hx
    have := (routeAmts_out h).2.1 x hx
    omega
theorem rAmts_len (l : List Rd) (xs : List Int) (n : Int) : (rAmts l xs n).length ≤ 8 := by
  cases h : routeAmts l xs n with
  | none => rw [(r_none h).1]; simp
  | some L => rw [(r_some h).1]; have := routeAmts_out h; omega
theorem rev_take {rs : List Rd} {i : Nat} {r : Rd} (h : rs[i]? = some r) : (rs.take (i + 1)).reverse = r :: (rs.take i).reverse := by
  have hl := (List.getElem?_eq_some_iff.1 h)
  rw [List.take_succ_eq_append_getElem hl.1, hl.2]; simp
theorem take_ne {rs : List Rd} {i : Nat} (h : i + 1 ≤ rs.length) : ∃ q t, (rs.take (i + 1)).reverse = q :: t := by
  have : (rs.take (i + 1)).reverse.length = i + 1 := by simp; omega
  cases hh : (rs.take (i + 1)).reverse with
  | nil => rw [hh] at this; simp at this
  | cons q t => exact ⟨q, t, rfl⟩
theorem zeros_set (i : Nat) (acc : List Int) (n : Int) : (List.replicate (i + 1) 0 ++ acc).set i n = List.replicate i 0 ++ n :: acc := by
  rw [List.replicate_succ', List.append_assoc, List.set_append_right i n (by simp)]
  simp
theorem zeros_get (i : Nat) (acc : List Int) (m : Int) : (List.replicate i (0 : Int) ++ m :: acc)[i]? = some m := by
  rw [List.getElem?_append_right (by simp)]; simp
theorem mem_cons_bd {n : Int} {acc : List Int} (hn : 0 ≤ n ∧ n ≤ 1125899906842624) (ha : ∀ x ∈ acc, 0 ≤ x ∧ x ≤ 1125899906842624) : ∀ x ∈ n :: acc, 0 ≤ x ∧ x ≤ 1125899906842624 := by
  intro x hx
  rcases List.mem_cons.1 hx with rfl | hx
  · exact hn
  · exact ha x hx

end Go.Proofs.YtegnlijgjcfmlaaDoor
