/- The ledger: what is valid. -/
import Derived.Test.YtafbdbefmlgioaaGreatDoorModL
import Derived.Test.YtafbdbefmlgioaaGreatDoorNestP
namespace Go.Proofs.YtafbdbefmlgioaaGreatDoor
open Go.RowKit
set_option linter.unusedVariables false
set_option linter.unusedSimpArgs false

abbrev LnV := VS Ln.enc 3 Ln.ok

set_option maxHeartbeats 800000 in
theorem accOk_impl (k c : Int) (w : World) : Calls Tryz.prog 68 #[.agg #[.int .i64 k, .int .i64 c]] w fun e w' => e = .returned (.bool (accOk k c)) ∧ Below w.heap.size w w' := by
  go_enter Tryz.func68, Tryz.ntmps68
  go_wp2_with (((go_at_call 85; refine (in_impl _ _ _ _).mono ?_); rintro e w1 ⟨rfl, rfl⟩))
  all_goals
    go_ret
    exact ⟨ret_bool (by (try simp only [accOk, ltA, inB, amtOk, M50, decide_eq_true_eq, decide_eq_false_iff_not, Bool.and_eq_true, Bool.or_eq_true, bne_iff_ne, beq_iff_eq, ne_eq, Bool.not_eq_true, Bool.not_eq_false] at *); first | exact tt (by omega) | exact ff (by omega) | exact dd (by omega) | (rw [Bool.eq_iff_iff]; simp only [Bool.and_eq_true, Bool.or_eq_true, decide_eq_true_eq, bne_iff_ne, ne_eq, beq_iff_eq]; omega)), by (repeat (first | (with_reducible exact Below.refl _ _) | (with_reducible assumption) | (with_reducible refine Below.setCell ?_ ?side _; case side => first | (with_reducible exact Nat.le_refl _) | (simp; done) | (simp only [World.size_alloc, World.size_setCell, World.size_drew, World.heap_drewN] at *; omega)) | (with_reducible refine below_alloc ?_ _) | (with_reducible refine Below.drew ?_) | (with_reducible refine below_drewN ?_) | (with_reducible refine below_via (by assumption) ?_)))⟩

set_option maxHeartbeats 800000 in
theorem accOk_spec (k c : Int) (w : World) : Calls Tryz.prog 59 #[.agg #[.int .i64 k, .int .i64 c]] w fun e w' => e = .returned (.bool (accOk k c)) ∧ Below w.heap.size w w' := by
  go_enter Tryz.func59, Tryz.ntmps59
  go_wp2_with (fail)
  all_goals
    go_ret
    exact ⟨ret_bool (by (try simp only [accOk, ltA, inB, amtOk, M50, decide_eq_true_eq, decide_eq_false_iff_not, Bool.and_eq_true, Bool.or_eq_true, bne_iff_ne, beq_iff_eq, ne_eq, Bool.not_eq_true, Bool.not_eq_false] at *); first | exact tt (by omega) | exact ff (by omega) | exact dd (by omega) | (rw [Bool.eq_iff_iff]; simp only [Bool.and_eq_true, Bool.or_eq_true, decide_eq_true_eq, bne_iff_ne, ne_eq, beq_iff_eq]; omega)), by (repeat (first | (with_reducible exact Below.refl _ _) | (with_reducible assumption) | (with_reducible refine Below.setCell ?_ ?side _; case side => first | (with_reducible exact Nat.le_refl _) | (simp; done) | (simp only [World.size_alloc, World.size_setCell, World.size_drew, World.heap_drewN] at *; omega)) | (with_reducible refine below_alloc ?_ _) | (with_reducible refine Below.drew ?_) | (with_reducible refine below_drewN ?_) | (with_reducible refine below_via (by assumption) ?_)))⟩

/-- the place of an account among all -/
def accNo (k c : Int) : Int := if k ≤ 5 then k - 1 else 5 + (k - 6) * 99 + (c - 1)
theorem accNo_bd {k c : Int} (h : accOk k c = true) : 0 ≤ accNo k c ∧ accNo k c ≤ 301 := by
  have := of_decide_eq_true h
  unfold accNo
  split <;> omega
theorem accNo_lt {k c k2 c2 : Int} (h : accOk k c = true) (h2 : accOk k2 c2 = true) (hl : ltA k c k2 c2 = true) : accNo k c < accNo k2 c2 := by
  have := of_decide_eq_true h
  have := of_decide_eq_true h2
  have := of_decide_eq_true hl
  unfold accNo
  split <;> split <;> omega
theorem lines_far : ∀ (n : Nat) (l : List Ln) (x : Ln), l.length = n → l.getLast? = some x → preL l = true → (n : Int) ≤ accNo x.kind x.ch + 1
  | 0, l, x, hl, h, _ => by
    obtain rfl : l = [] := List.eq_nil_of_length_eq_zero hl
    simp at h
  | n + 1, l, x, hl, h, hp => by
    rcases List.eq_nil_or_concat l with rfl | ⟨m, z, rfl⟩
    · simp at hl
    · rw [List.concat_eq_append] at hl h hp
      rw [List.getLast?_concat] at h
      obtain rfl := Option.some.inj h
      have hm : m.length = n := by simpa using hl
      have hz := preL_bd hp z (by simp)
      unfold lineOk at hz
      simp only [Bool.and_eq_true] at hz
      have hzb := accNo_bd hz.1.1
      rcases hm0 : m.getLast? with _ | q
      · rw [List.getLast?_eq_none_iff] at hm0
        subst hm0
        simp at hm
        omega
      · have h2 : (preL m && (lineOk z && ltL q z)) = true := by rw [← hp, preL_snoc, hm0]
        simp only [Bool.and_eq_true] at h2
        have ih := lines_far n m q hm hm0 h2.1
        have hq := preL_bd h2.1 q (List.mem_of_getLast? hm0)
        unfold lineOk at hq
        simp only [Bool.and_eq_true] at hq
        have := accNo_lt hq.1.1 hz.1.1 h2.2.2
        omega
theorem lines_few {l : List Ln} (h : preL l = true) : l.length ≤ 302 := by
  rcases hq : l.getLast? with _ | q
  · simp at hq; subst hq; simp
  · have h1 := lines_far _ l q rfl hq h
    have h2 := preL_bd h q (List.mem_of_getLast? hq)
    unfold lineOk at h2
    simp only [Bool.and_eq_true] at h2
    have := accNo_bd h2.1.1
    omega
theorem preL_sum {l : List Ln} (h : preL l = true) : -(1125899906842624 * 302) ≤ sumL l ∧ sumL l ≤ 1125899906842624 * 302 := by
  have h1 := lines_few h
  have h2 := sumL_bd (l := l) fun x hx => lineOk_bd (preL_bd h x hx)
  omega
theorem preL_stop {l : List Ln} {k : Nat} {x : Ln} (h : l.take (k + 1) = l.take k ++ [x]) (hb : (lineOk x && (match (l.take k).getLast? with | none => true | some y => ltL y x)) = false) : linesOk l = false :=
  preL_bad (k := k + 1) ((preL_step h).trans ((congrArg (fun b => preL (l.take k) && b) hb).trans (Bool.and_false _)))
theorem preL_go {l : List Ln} {k : Nat} {x : Ln} (h : l.take (k + 1) = l.take k ++ [x]) (hp : preL (l.take k) = true) (ha : accOk x.kind x.ch = true) (hz : x.amt ≠ 0) (hm : M50 x.amt = true) (hl : ∀ y, (l.take k).getLast? = some y → ltL y x = true) : preL (l.take (k + 1)) = true := by
  rw [preL_step h, hp]
  unfold lineOk
  rw [ha, hm, decide_eq_false hz]
  cases hq : (l.take k).getLast? with
  | none => rfl
  | some y => simp [hl y hq]
theorem linesOk_end {l : List Ln} (hp : preL l = true) : linesOk l = decide (sumL l = 0) := by unfold linesOk; rw [hp]; rfl

end Go.Proofs.YtafbdbefmlgioaaGreatDoor
