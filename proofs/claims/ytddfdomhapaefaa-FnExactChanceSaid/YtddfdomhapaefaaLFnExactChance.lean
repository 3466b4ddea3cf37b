/- FnExactChance: for every input the law returns true, and each argument reads afterwards as it read before. No condition. The frame of the row, by a program of the prover. -/
import Derived.Test.YtddfdomhapaefaaWChance
import Derived.Test.YtddfdomhapaefaaOpen
namespace Go.Proofs.Ytddfdomhapaefaa.fnExactChance
open Go.ChangeShapes Go.WideShapes Go.ChangeAt Go.RowKit
open Go.ChangeMaps (open_string shut_string)
set_option linter.unusedVariables false
theorem own : ownKnob Try.prog.godebug = none := by kernel_rfl
theorem laidOut : laidOutB Try.prog = true := by kernel_rfl
set_option maxRecDepth 100000 in
theorem lifted (os : Os) (started : os.Started) (H : Type) (enc : TypeId × Value → H) :
    ReturnsInHanded {} Try.checked os 8 .any (Rows.fnExactChanceSpec.pre6 enc Try.prog Try.f8 Rows.fnExactChanceRow.domain false) (Rows.fnExactChanceSpec.post enc Try.prog Try.f8 false true false false) := by
  refine returnsInHanded_of_change (C := Try.checked) own started (by kernel_rfl) Try.func8
    (ChangeSpec.witness6 (enc := enc) (C := Try.checked) false ⟨#[], #[.agg #[.int .i64 0, .int .i64 0, .int .i64 0, .int .i64 0], .int .i64 0], []⟩ 8 (by kernel_rfl) (by kernel_rfl) (by kernel_rfl) (by kernel_rfl)) ?_
  intro W base args ds gs before hval0 hW hcnd _
  have hval : ∀ (j : Nat) t v, Try.f8.params[j]? = some t → args[j]? = some v → Value.okWide Try.prog W .any base t v := hval0
  have hW' := hW
  obtain ⟨p, q, hA0, hV, rfl, hfz, hnd⟩ := hW
  have hA : DataW.TrodAll enc Try.prog W 0 (fun _ => true) true Try.f8.params.toList args.toList ds p := hA0
  rw [Try.params8] at hA hval
  obtain ⟨v0, vs0, d0, ds0, p0, q0, hargs, rfl, rfl, h0, r0⟩ := trodAll_cons hA
  obtain ⟨v1, vs1, d1, ds1, p1, q1, rfl, rfl, rfl, h1, r1⟩ := trodAll_cons r0
  obtain ⟨rfl, rfl, rfl⟩ := trodAll_nil r1
  obtain rfl : args = #[v0, v1] := by cases args; simp_all
  obtain ⟨rfl, rfl⟩ := trodVars_none hV
  have k0 := h0
  have lt0 : ∀ x ∈ p0, x.block < W.heap.size := by obtain ⟨m, hm⟩ := k0; exact DataW.trod_lt m _ _ _ hm
  have k1 := h1
  have lt1 : ∀ x ∈ p1, x.block < W.heap.size := by obtain ⟨m, hm⟩ := k1; exact DataW.trod_lt m _ _ _ hm
  obtain ⟨l0, rfl, ll0, lf0⟩ := open_flat Try.underlying23 (by kernel_rfl) (by kernel_rfl) (hval 0 23 v0 rfl rfl) h0
  obtain ⟨n0f0, c0f0, y0f0, e0f0, t0f0⟩ := lf0 0 _ rfl
  obtain ⟨a0f0, q0f0, -, w0f0⟩ := DataW.trod_int Try.underlying3 t0f0
  obtain rfl : c0f0 = _ := by simpa using q0f0
  obtain ⟨n0f1, c0f1, y0f1, e0f1, t0f1⟩ := lf0 1 _ rfl
  obtain ⟨a0f1, q0f1, -, w0f1⟩ := DataW.trod_int Try.underlying3 t0f1
  obtain rfl : c0f1 = _ := by simpa using q0f1
  obtain ⟨n0f2, c0f2, y0f2, e0f2, t0f2⟩ := lf0 2 _ rfl
  obtain ⟨a0f2, q0f2, -, w0f2⟩ := DataW.trod_int Try.underlying3 t0f2
  obtain rfl : c0f2 = _ := by simpa using q0f2
  obtain ⟨n0f3, c0f3, y0f3, e0f3, t0f3⟩ := lf0 3 _ rfl
  obtain ⟨a0f3, q0f3, -, w0f3⟩ := DataW.trod_int Try.underlying3 t0f3
  obtain rfl : c0f3 = _ := by simpa using q0f3
  obtain rfl : l0 = [.int .i64 a0f0, .int .i64 a0f1, .int .i64 a0f2, .int .i64 a0f3] := list4 ll0 e0f0 e0f1 e0f2 e0f3
  obtain ⟨a1, rfl, -, -, w1⟩ := open_int Try.underlying3 (hval 1 3 v1 rfl rfl) h1
  clear hA0 hval0
  refine (walk_FnExactChance a0f0 w0f0 a0f1 w0f1 a0f2 w0f2 a0f3 w0f3 a1 w1 W).mono fun e W' ⟨he, bel⟩ => ?_
  subst he
  exact ⟨_, rfl, _, _, _, [], _, [], hW', trodAll_mk1 (shut_bool Try.underlying4 _), (trodAll_cons_mk (Below.trod laidOut (by kernel_rfl) (of_decide_eq_true (by kernel_rfl)) k0 bel lt0) (trodAll_cons_mk (Below.trod laidOut (by kernel_rfl) (of_decide_eq_true (by kernel_rfl)) k1 bel lt1) trodAll_mk0)), rfl, bel.frame _, fun h => by cases h⟩
theorem over : Rows.fnExactChanceRow.holds Try.pinned (OpenSpec.ofChange Rows.fnExactChanceSpec) :=
  OpenClaim.holds_of_wide 8 Try.f8 rfl rfl rfl rfl rfl rfl rfl ⟨rfl, rfl, rfl, rfl, rfl⟩ rfl rfl rfl rfl rfl (by kernel_rfl) Try.func8 (by kernel_rfl)
    (of_decide_eq_true (by kernel_rfl)) (by unfold Func.isWrapper; first | (rw [if_pos (by decide +kernel)]; kernel_rfl) | (rw [if_neg (by decide +kernel)]; exact ⟨rfl, rfl⟩))
    (fun os started H enc _ => lifted os started H enc)
/-- the given statement -/
theorem proved : Rows.FnExactChanceSaid := over
#print axioms proved
end Go.Proofs.Ytddfdomhapaefaa.fnExactChance
