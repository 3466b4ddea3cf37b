/- The ledger: the plain part. -/
import Derived.Test.YtafbdbefmlgioaaGreatDoorSLine
import Derived.Test.YtafbdbefmlgioaaGreatDoorOwn
namespace Go.Proofs.YtafbdbefmlgioaaGreatDoor
open Go.RowKit
set_option linter.unusedVariables false
set_option linter.unusedSimpArgs false

abbrev LnR := OwnF Ln.enc 3 98

structure Lg where
  last : Int
  lines : List Ln
structure Po where
  id : Int
  lines : List Ln
def accOk (k c : Int) : Bool := decide ((1 ≤ k ∧ k ≤ 5 ∧ c = 0) ∨ (6 ≤ k ∧ k ≤ 8 ∧ 1 ≤ c ∧ c ≤ 99))
def ltA (k c k' c' : Int) : Bool := decide (k < k' ∨ (k = k' ∧ c < c'))
def ltL (x y : Ln) : Bool := ltA x.kind x.ch y.kind y.ch
def M50 (n : Int) : Bool := decide (-1125899906842624 ≤ n ∧ n ≤ 1125899906842624)
def lineOk (x : Ln) : Bool := accOk x.kind x.ch && !decide (x.amt = 0) && M50 x.amt
/-- each line comes behind the one before -/
def chainL : List Ln → Bool
  | [] => true
  | [_] => true
  | x :: y :: r => ltL x y && chainL (y :: r)
def sumL (l : List Ln) : Int := (l.map (·.amt)).sum
def preL (l : List Ln) : Bool := l.all lineOk && chainL l
def linesOk (l : List Ln) : Bool := preL l && decide (sumL l = 0)
def ledgerOk (l : Lg) : Bool := decide (0 ≤ l.last ∧ l.last ≤ 1125899906842624) && decide (l.lines.length ≤ 320) && linesOk l.lines
def postingOk (p : Po) : Bool := decide (1 ≤ p.id ∧ p.id ≤ 1125899906842624) && decide (2 ≤ p.lines.length ∧ p.lines.length ≤ 8) && linesOk p.lines
theorem ltL_iff (x y : Ln) : ltL x y = true ↔ (x.kind < y.kind ∨ (x.kind = y.kind ∧ x.ch < y.ch)) := by unfold ltL ltA; rw [decide_eq_true_eq]
theorem ltL_trans {x y z : Ln} (h1 : ltL x y = true) (h2 : ltL y z = true) : ltL x z = true := by rw [ltL_iff] at *; omega
theorem sumL_cons (x : Ln) (l : List Ln) : sumL (x :: l) = x.amt + sumL l := by simp [sumL]
theorem sumL_app (l r : List Ln) : sumL (l ++ r) = sumL l + sumL r := by simp [sumL]
theorem chainL_snoc : ∀ (l : List Ln) (x : Ln), chainL (l ++ [x]) = (chainL l && (match l.getLast? with | none => true | some y => ltL y x))
  | [], x => rfl
  | [y], x => by simp [chainL]
  | y :: z :: r, x => by
    have ih := chainL_snoc (z :: r) x
    rw [List.cons_append] at ih
    rw [List.cons_append, List.cons_append, chainL, chainL, ih]
    cases hr : r.getLast? <;> simp [Bool.and_assoc]
theorem preL_snoc (l : List Ln) (x : Ln) : preL (l ++ [x]) = (preL l && (lineOk x && (match l.getLast? with | none => true | some y => ltL y x))) := by
  unfold preL
  rw [List.all_append, chainL_snoc]
  simp only [List.all_cons, List.all_nil, Bool.and_true]
  cases l.all lineOk <;> cases chainL l <;> cases lineOk x <;> simp
theorem last_take {l : List Ln} {k : Nat} {x : Ln} (h : l[k]? = some x) : (l.take (k + 1)).getLast? = some x := by
  have hk : k < l.length := (List.getElem?_eq_some_iff.1 h).1
  rw [List.getLast?_eq_getElem?, List.length_take, Nat.min_eq_left (by omega), Nat.add_sub_cancel, List.getElem?_take_of_lt (by omega)]
  exact h
theorem preL_step {l : List Ln} {k : Nat} {x : Ln} (h : l.take (k + 1) = l.take k ++ [x]) : preL (l.take (k + 1)) = (preL (l.take k) && (lineOk x && (match (l.take k).getLast? with | none => true | some y => ltL y x))) := by
  rw [h, preL_snoc]
theorem preL_down : ∀ (r l : List Ln), preL (l ++ r) = true → preL l = true
  | [], l, h => by simpa using h
  | x :: r, l, h => by
    have h2 := preL_down r (l ++ [x]) (by simpa using h)
    rw [preL_snoc, Bool.and_eq_true] at h2
    exact h2.1
theorem preL_bad {l : List Ln} {k : Nat} (h : preL (l.take k) = false) : linesOk l = false := by
  cases hp : preL l with
  | false => unfold linesOk; rw [hp]; rfl
  | true =>
    rw [← List.take_append_drop k l] at hp
    rw [preL_down _ _ hp] at h
    cases h
theorem preL_bd {l : List Ln} (h : preL l = true) : ∀ x ∈ l, lineOk x = true := fun x hx => by
  unfold preL at h
  rw [Bool.and_eq_true] at h
  exact List.all_eq_true.1 h.1 x hx
theorem lineOk_bd {x : Ln} (h : lineOk x = true) : -1125899906842624 ≤ x.amt ∧ x.amt ≤ 1125899906842624 := by
  unfold lineOk M50 at h
  simp only [Bool.and_eq_true, decide_eq_true_eq] at h
  exact h.2
theorem sumL_bd : ∀ {l : List Ln}, (∀ x ∈ l, -1125899906842624 ≤ x.amt ∧ x.amt ≤ 1125899906842624) → -(1125899906842624 * (l.length : Int)) ≤ sumL l ∧ sumL l ≤ 1125899906842624 * (l.length : Int)
  | [], _ => by simp [sumL]
  | x :: l, h => by
    have ih := sumL_bd (l := l) fun y hy => h y (List.mem_cons_of_mem _ hy)
    have hx := h x List.mem_cons_self
    rw [sumL_cons, List.length_cons]
    omega
/-! sums of lines -/
/-- the lines of two lists, those of one account added -/
def mergeU : List Ln → List Ln → List Ln
  | [], b => b
  | x :: a, [] => x :: a
  | x :: a, y :: b => if ltL x y = true then x :: mergeU a (y :: b) else if ltL y x = true then y :: mergeU (x :: a) b else
      if x.amt + y.amt = 0 then mergeU a b else ⟨x.kind, x.ch, x.amt + y.amt⟩ :: mergeU a b
termination_by a b => a.length + b.length
/-- whether no sum is too great -/
def mergeOk : List Ln → List Ln → Bool
  | [], _ => true
  | _ :: _, [] => true
  | x :: a, y :: b => if ltL x y = true then mergeOk a (y :: b) else if ltL y x = true then mergeOk (x :: a) b else M50 (x.amt + y.amt) && mergeOk a b
termination_by a b => a.length + b.length
theorem mergeU_nil (b : List Ln) : mergeU [] b = b := by rw [mergeU]
theorem mergeU_nil2 (a : List Ln) : mergeU a [] = a := by cases a <;> rw [mergeU]
theorem mergeOk_nil (b : List Ln) : mergeOk [] b = true := by rw [mergeOk]
theorem mergeOk_nil2 (a : List Ln) : mergeOk a [] = true := by cases a <;> rw [mergeOk]
def addL (l : List Ln) (x : Ln) : List Ln := mergeU l [x]
/-- x comes before all of l -/
def lead (x : Ln) (l : List Ln) : Prop := ∀ y ∈ l, ltL x y = true
def sortL (l : List Ln) : Prop := l.Pairwise fun x y => ltL x y = true
theorem sort_chain : ∀ (l : List Ln), chainL l = true ↔ sortL l
  | [] => ⟨fun _ => List.Pairwise.nil, fun _ => rfl⟩
  | [x] => ⟨fun _ => List.pairwise_singleton _ _, fun _ => rfl⟩
  | x :: y :: r => by
    have ih := sort_chain (y :: r)
    unfold chainL
    rw [Bool.and_eq_true, ih]
    unfold sortL
    rw [List.pairwise_cons (a := x)]
    constructor
    · rintro ⟨h1, h2⟩
      refine ⟨fun z hz => ?_, h2⟩
      rcases List.mem_cons.1 hz with rfl | hz
      · exact h1
      · exact ltL_trans h1 ((List.pairwise_cons.1 h2).1 z hz)
    · rintro ⟨h1, h2⟩
      exact ⟨h1 y List.mem_cons_self, h2⟩
theorem ltL_asymm {x y : Ln} (h : ltL x y = true) : ltL y x = false := by
  cases h2 : ltL y x with
  | false => rfl
  | true => rw [ltL_iff] at h h2; omega
theorem lead_trans {x y : Ln} {l : List Ln} (h : ltL x y = true) (hl : lead y l) : lead x l := fun z hz => ltL_trans h (hl z hz)
theorem merge_lead : ∀ (a b : List Ln) (z : Ln), lead z a → lead z b → lead z (mergeU a b)
  | [], b, z, _, hb => by rw [mergeU]; exact hb
  | x :: a, [], z, ha, _ => by rw [mergeU]; exact ha
  | x :: a, y :: b, z, ha, hb => by
    have hx := ha x List.mem_cons_self
    have hy := hb y List.mem_cons_self
    have ha' : lead z a := fun u hu => ha u (List.mem_cons_of_mem _ hu)
    have hb' : lead z b := fun u hu => hb u (List.mem_cons_of_mem _ hu)
    rw [mergeU]
    split
    · intro u hu
      rcases List.mem_cons.1 hu with rfl | hu
      · exact hx
      · exact merge_lead a (y :: b) z ha' hb u hu
    · split
      · intro u hu
        rcases List.mem_cons.1 hu with rfl | hu
        · exact hy
        · exact merge_lead (x :: a) b z ha hb' u hu
      · split
        · exact merge_lead a b z ha' hb'
        · intro u hu
          rcases List.mem_cons.1 hu with rfl | hu
          · rw [ltL_iff] at hx ⊢; exact hx
          · exact merge_lead a b z ha' hb' u hu
termination_by a b => a.length + b.length
theorem same_acc {x y : Ln} (h1 : ¬ ltL x y = true) (h2 : ¬ ltL y x = true) : x.kind = y.kind ∧ x.ch = y.ch := by rw [ltL_iff] at h1 h2; omega
theorem merge_sort : ∀ (a b : List Ln), sortL a → sortL b → sortL (mergeU a b)
  | [], b, _, hb => by rw [mergeU]; exact hb
  | x :: a, [], ha, _ => by rw [mergeU]; exact ha
  | x :: a, y :: b, ha, hb => by
    obtain ⟨hxa, ha'⟩ := List.pairwise_cons.1 ha
    obtain ⟨hyb, hb'⟩ := List.pairwise_cons.1 hb
    rw [mergeU]
    split
    · rename_i h1
      refine List.pairwise_cons.2 ⟨merge_lead a (y :: b) x hxa fun u hu => ?_, merge_sort a (y :: b) ha' hb⟩
      rcases List.mem_cons.1 hu with rfl | hu
      · exact h1
      · exact ltL_trans h1 (hyb u hu)
    · rename_i h1
      split
      · rename_i h2
        refine List.pairwise_cons.2 ⟨merge_lead (x :: a) b y (fun u hu => ?_) hyb, merge_sort (x :: a) b ha hb'⟩
        rcases List.mem_cons.1 hu with rfl | hu
        · exact h2
        · exact ltL_trans h2 (hxa u hu)
      · rename_i h2
        split
        · exact merge_sort a b ha' hb'
        · have hs := same_acc h1 h2
          refine List.pairwise_cons.2 ⟨merge_lead a b _ (fun u hu => ?_) (fun u hu => ?_), merge_sort a b ha' hb'⟩
          · have := hxa u hu; rw [ltL_iff] at this ⊢; exact this
          · have := hyb u hu; rw [ltL_iff] at this ⊢; simp only; omega
termination_by a b => a.length + b.length
theorem merge_sum : ∀ (a b : List Ln), sumL (mergeU a b) = sumL a + sumL b
  | [], b => by rw [mergeU]; simp [sumL]
  | x :: a, [] => by rw [mergeU]; simp [sumL]
  | x :: a, y :: b => by
    rw [mergeU]
    split
    · rw [sumL_cons, merge_sum a (y :: b), sumL_cons, sumL_cons]; omega
    · split
      · rw [sumL_cons, merge_sum (x :: a) b, sumL_cons, sumL_cons]; omega
      · split
        · rw [merge_sum a b, sumL_cons, sumL_cons]; omega
        · rw [sumL_cons, merge_sum a b, sumL_cons, sumL_cons]; simp only; omega
termination_by a b => a.length + b.length
/-- what holds of the lines but for their greatness -/
def lineOk0 (x : Ln) : Bool := accOk x.kind x.ch && !decide (x.amt = 0)
theorem lineOk_0 (x : Ln) : lineOk x = (lineOk0 x && M50 x.amt) := rfl
theorem merge_ok0 : ∀ (a b : List Ln), (∀ x ∈ a, lineOk0 x = true) → (∀ x ∈ b, lineOk0 x = true) → ∀ x ∈ mergeU a b, lineOk0 x = true
  | [], b, _, hb => by rw [mergeU]; exact hb
  | x :: a, [], ha, _ => by rw [mergeU]; exact ha
  | x :: a, y :: b, ha, hb => by
    have ha' : ∀ u ∈ a, lineOk0 u = true := fun u hu => ha u (List.mem_cons_of_mem _ hu)
    have hb' : ∀ u ∈ b, lineOk0 u = true := fun u hu => hb u (List.mem_cons_of_mem _ hu)
    have hx := ha x List.mem_cons_self
    have hy := hb y List.mem_cons_self
    rw [mergeU]
    split
    · intro u hu
      rcases List.mem_cons.1 hu with rfl | hu
      · exact hx
      · exact merge_ok0 a (y :: b) ha' hb u hu
    · split
      · intro u hu
        rcases List.mem_cons.1 hu with rfl | hu
        · exact hy
        · exact merge_ok0 (x :: a) b ha hb' u hu
      · split
        · exact merge_ok0 a b ha' hb'
        · rename_i hne
          intro u hu
          rcases List.mem_cons.1 hu with rfl | hu
          · unfold lineOk0 at hx ⊢
            rw [Bool.and_eq_true] at hx ⊢
            exact ⟨hx.1, by simp [hne]⟩
          · exact merge_ok0 a b ha' hb' u hu
termination_by a b => a.length + b.length
theorem M50_0 : M50 0 = true := by decide
/-- the greatness of the sums: looked at while merging, or behind it -/
theorem merge_M : ∀ (a b : List Ln), (∀ x ∈ a, M50 x.amt = true) → (∀ x ∈ b, M50 x.amt = true) → (mergeU a b).all (fun x => M50 x.amt) = mergeOk a b
  | [], b, _, hb => by rw [mergeU, mergeOk]; exact List.all_eq_true.2 hb
  | x :: a, [], ha, _ => by rw [mergeU, mergeOk]; exact List.all_eq_true.2 ha
  | x :: a, y :: b, ha, hb => by
    have ha' : ∀ u ∈ a, M50 u.amt = true := fun u hu => ha u (List.mem_cons_of_mem _ hu)
    have hb' : ∀ u ∈ b, M50 u.amt = true := fun u hu => hb u (List.mem_cons_of_mem _ hu)
    have hx := ha x List.mem_cons_self
    have hy := hb y List.mem_cons_self
    rw [mergeU, mergeOk]
    split
    · rw [List.all_cons, merge_M a (y :: b) ha' hb, hx, Bool.true_and]
    · split
      · rw [List.all_cons, merge_M (x :: a) b ha hb', hy, Bool.true_and]
      · split
        · rename_i h0
          rw [merge_M a b ha' hb', h0, M50_0, Bool.true_and]
        · rw [List.all_cons, merge_M a b ha' hb']
termination_by a b => a.length + b.length
theorem mergeU_add : ∀ (a b : List Ln) (y : Ln), sortL a → lead y b → mergeU a (y :: b) = mergeU (addL a y) b
  | [], b, y, _, hb => by
    unfold addL
    rw [mergeU, mergeU]
    cases b with
    | nil => rw [mergeU]
    | cons z b =>
      rw [mergeU, if_pos (hb z List.mem_cons_self), mergeU]
  | x :: a, b, y, ha, hb => by
    obtain ⟨hxa, ha'⟩ := List.pairwise_cons.1 ha
    unfold addL
    by_cases h1 : ltL x y = true
    · rw [mergeU, if_pos h1, mergeU_add a b y ha' hb]
      unfold addL
      rw [mergeU, if_pos h1]
      cases b with
      | nil => rw [mergeU_nil2, mergeU_nil2]
      | cons z b =>
        have hz : ltL x z = true := ltL_trans h1 (hb z List.mem_cons_self)
        rw [mergeU.eq_3, if_pos hz]
    · by_cases h2 : ltL y x = true
      · rw [mergeU, if_neg h1, if_pos h2, mergeU, if_neg h1, if_pos h2, mergeU_nil2]
        cases b with
        | nil => rw [mergeU_nil2, mergeU_nil2]
        | cons z b =>
          rw [mergeU.eq_3 y, if_pos (hb z List.mem_cons_self)]
      · have hs := same_acc h1 h2
        rw [mergeU, if_neg h1, if_neg h2, mergeU, if_neg h1, if_neg h2, mergeU_nil2]
        split
        · rfl
        · cases b with
          | nil => rw [mergeU_nil2, mergeU_nil2]
          | cons z b =>
            have hz := hb z List.mem_cons_self
            have hz2 : ltL ⟨x.kind, x.ch, x.amt + y.amt⟩ z = true := by rw [ltL_iff] at hz ⊢; simp only; omega
            rw [mergeU.eq_3 _ a, if_pos hz2]
theorem foldl_add : ∀ (b a : List Ln), sortL a → sortL b → b.foldl addL a = mergeU a b
  | [], a, _, _ => by rw [mergeU_nil2]; rfl
  | y :: b, a, ha, hb => by
    obtain ⟨hyb, hb'⟩ := List.pairwise_cons.1 hb
    rw [List.foldl_cons, foldl_add b (addL a y) (merge_sort a [y] ha (List.pairwise_singleton _ _)) hb', mergeU_add a b y ha hyb]
def Lg.zero : Lg := ⟨0, []⟩
/-- a posting posted: the code, the ledger -/
def postL (l : Lg) (p : Po) : Int × Lg :=
  if (ledgerOk l && postingOk p) = false then (1, Lg.zero) else if p.id ≤ l.last then (2, Lg.zero)
  else if (mergeOk l.lines p.lines && decide ((mergeU l.lines p.lines).length ≤ 320)) = false then (3, Lg.zero) else (0, ⟨p.id, mergeU l.lines p.lines⟩)
theorem ledgerOk_t {l : Lg} (h : ledgerOk l = true) : (0 ≤ l.last ∧ l.last ≤ 1125899906842624) ∧ l.lines.length ≤ 320 ∧ linesOk l.lines = true := by
  unfold ledgerOk at h
  simp only [Bool.and_eq_true, decide_eq_true_eq] at h
  exact ⟨h.1.1, h.1.2, h.2⟩
theorem postingOk_t {p : Po} (h : postingOk p = true) : (1 ≤ p.id ∧ p.id ≤ 1125899906842624) ∧ (2 ≤ p.lines.length ∧ p.lines.length ≤ 8) ∧ linesOk p.lines = true := by
  unfold postingOk at h
  simp only [Bool.and_eq_true, decide_eq_true_eq] at h
  exact ⟨h.1.1, h.1.2, h.2⟩
theorem linesOk_t {l : List Ln} (h : linesOk l = true) : (∀ x ∈ l, lineOk x = true) ∧ sortL l ∧ sumL l = 0 := by
  unfold linesOk preL at h
  simp only [Bool.and_eq_true, decide_eq_true_eq] at h
  exact ⟨List.all_eq_true.1 h.1.1, (sort_chain l).1 h.1.2, h.2⟩
/-- what the reference looks at behind the adding is what the program looks at within -/
theorem post_ok {l : Lg} {p : Po} (hl : ledgerOk l = true) (hp : postingOk p = true) : ledgerOk ⟨p.id, mergeU l.lines p.lines⟩ = (mergeOk l.lines p.lines && decide ((mergeU l.lines p.lines).length ≤ 320)) := by
  obtain ⟨h1, h2, h3⟩ := ledgerOk_t hl
  obtain ⟨g1, g2, g3⟩ := postingOk_t hp
  obtain ⟨a1, a2, a3⟩ := linesOk_t h3
  obtain ⟨b1, b2, b3⟩ := linesOk_t g3
  have M1 : ∀ x ∈ l.lines, M50 x.amt = true := fun x hx => by have := a1 x hx; rw [lineOk_0, Bool.and_eq_true] at this; exact this.2
  have M2 : ∀ x ∈ p.lines, M50 x.amt = true := fun x hx => by have := b1 x hx; rw [lineOk_0, Bool.and_eq_true] at this; exact this.2
  have O := merge_ok0 l.lines p.lines (fun x hx => by have := a1 x hx; rw [lineOk_0, Bool.and_eq_true] at this; exact this.1) (fun x hx => by have := b1 x hx; rw [lineOk_0, Bool.and_eq_true] at this; exact this.1)
  have hs := merge_sum l.lines p.lines
  have hc := (sort_chain _).2 (merge_sort l.lines p.lines a2 b2)
  unfold ledgerOk linesOk preL
  simp only
  rw [decide_eq_true (show 0 ≤ p.id ∧ p.id ≤ 1125899906842624 by omega), hc, decide_eq_true (show sumL (mergeU l.lines p.lines) = 0 by omega), ← merge_M _ _ M1 M2]
  have e : (mergeU l.lines p.lines).all lineOk = (mergeU l.lines p.lines).all fun x => M50 x.amt := by
    rw [Bool.eq_iff_iff, List.all_eq_true, List.all_eq_true]
    refine ⟨fun h x hx => ?_, fun h x hx => ?_⟩
    · have := h x hx; rw [lineOk_0, Bool.and_eq_true] at this; exact this.2
    · rw [lineOk_0, O x hx, h x hx]; rfl
  rw [e]
  cases (mergeU l.lines p.lines).all (fun x => M50 x.amt) <;> simp
theorem postL_ok {l : Lg} {p : Po} (h : (postL l p).1 = 0) : ledgerOk (postL l p).2 = true ∧ (postL l p).2 = ⟨p.id, mergeU l.lines p.lines⟩ := by
  unfold postL at h ⊢
  split
  · rename_i h1; rw [if_pos h1] at h; cases h
  · rename_i h1
    rw [if_neg h1] at h
    split
    · rename_i h2; rw [if_pos h2] at h; cases h
    · rename_i h2
      rw [if_neg h2] at h
      split
      · rename_i h3; rw [if_pos h3] at h; cases h
      · rename_i h3
        have h1' : ledgerOk l = true ∧ postingOk p = true := by simpa using h1
        refine ⟨?_, rfl⟩
        rw [post_ok h1'.1 h1'.2]
        simpa using h3
/-- the amount of an account -/
def balL (ls : List Ln) (k c : Int) : Int := ((ls.find? fun x => decide (x.kind = k ∧ x.ch = c)).map (·.amt)).getD 0
def balance (l : Lg) (k c : Int) : Int := if ledgerOk l && accOk k c then balL l.lines k c else 0
/-- postings posted: the ledger, and how many were -/
def postAllL (l : Lg) (ps : List Po) : Lg × Int := if ledgerOk l = false then (Lg.zero, -1) else ps.foldl (fun s p => if (postL s.1 p).1 = 0 then ((postL s.1 p).2, s.2 + 1) else s) (l, 0)

end Go.Proofs.YtafbdbefmlgioaaGreatDoor
