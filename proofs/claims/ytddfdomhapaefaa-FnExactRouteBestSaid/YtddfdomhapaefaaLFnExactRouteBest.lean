/- FnExactRouteBest: for every input the law returns true, and each argument reads afterwards as it read before. No condition. The frame of the row, by a program of the prover. -/
import Derived.Test.YtddfdomhapaefaaWBestL
import Derived.Test.YtddfdomhapaefaaOpen
namespace Go.Proofs.Ytddfdomhapaefaa.fnExactRouteBest
open Go.ChangeShapes Go.WideShapes Go.ChangeAt Go.RowKit
open Go.ChangeMaps (open_string shut_string)
set_option linter.unusedVariables false
theorem own : ownKnob Try.prog.godebug = none := by kernel_rfl
theorem laidOut : laidOutB Try.prog = true := by kernel_rfl
set_option maxRecDepth 100000 in
theorem lifted (os : Os) (started : os.Started) (H : Type) (enc : TypeId × Value → H) :
    ReturnsInHanded {} Try.checked os 14 .any (Rows.fnExactRouteBestSpec.pre6 enc Try.prog Try.f14 Rows.fnExactRouteBestRow.domain false) (Rows.fnExactRouteBestSpec.post enc Try.prog Try.f14 false true false false) := by
  refine returnsInHanded_of_change (C := Try.checked) own started (by kernel_rfl) Try.func14
    (ChangeSpec.witness6 (enc := enc) (C := Try.checked) false ⟨#[], #[.slice none 0 0, .int .i64 0, .int .i64 0, .int .i64 0, .int .i64 0], []⟩ 8 (by kernel_rfl) (by kernel_rfl) (by kernel_rfl) (by kernel_rfl)) ?_
  intro W base args ds gs before hval0 hW hcnd _
  have hval : ∀ (j : Nat) t v, Try.f14.params[j]? = some t → args[j]? = some v → Value.okWide Try.prog W .any base t v := hval0
  have hW' := hW
  obtain ⟨p, q, hA0, hV, rfl, hfz, hnd⟩ := hW
  have hA : DataW.TrodAll enc Try.prog W 0 (fun _ => true) true Try.f14.params.toList args.toList ds p := hA0
  rw [Try.params14] at hA hval
  obtain ⟨v0, vs0, d0, ds0, p0, q0, hargs, rfl, rfl, h0, r0⟩ := trodAll_cons hA
  obtain ⟨v1, vs1, d1, ds1, p1, q1, rfl, rfl, rfl, h1, r1⟩ := trodAll_cons r0
  obtain ⟨v2, vs2, d2, ds2, p2, q2, rfl, rfl, rfl, h2, r2⟩ := trodAll_cons r1
  obtain ⟨v3, vs3, d3, ds3, p3, q3, rfl, rfl, rfl, h3, r3⟩ := trodAll_cons r2
  obtain ⟨v4, vs4, d4, ds4, p4, q4, rfl, rfl, rfl, h4, r4⟩ := trodAll_cons r3
  obtain ⟨rfl, rfl, rfl⟩ := trodAll_nil r4
  obtain rfl : args = #[v0, v1, v2, v3, v4] := by cases args; simp_all
  obtain ⟨rfl, rfl⟩ := trodVars_none hV
  have k0 := h0
  have lt0 : ∀ x ∈ p0, x.block < W.heap.size := by obtain ⟨m, hm⟩ := k0; exact DataW.trod_lt m _ _ _ hm
  have k1 := h1
  have lt1 : ∀ x ∈ p1, x.block < W.heap.size := by obtain ⟨m, hm⟩ := k1; exact DataW.trod_lt m _ _ _ hm
  have k2 := h2
  have lt2 : ∀ x ∈ p2, x.block < W.heap.size := by obtain ⟨m, hm⟩ := k2; exact DataW.trod_lt m _ _ _ hm
  have k3 := h3
  have lt3 : ∀ x ∈ p3, x.block < W.heap.size := by obtain ⟨m, hm⟩ := k3; exact DataW.trod_lt m _ _ _ hm
  have k4 := h4
  have lt4 : ∀ x ∈ p4, x.block < W.heap.size := by obtain ⟨m, hm⟩ := k4; exact DataW.trod_lt m _ _ _ hm
  obtain ⟨a0, len0, cap0, rfl⟩ := okWide_slice Try.underlying36 (hval 0 36 v0 rfl rfl)
  obtain ⟨lc0, lm0, le0⟩ := open_flats Try.underlying36 Try.underlying81 (by kernel_rfl) (by kernel_rfl) (by decide) h0
  obtain ⟨z0, w0⟩ : ∃ xs, RdS W W.heap.size a0 len0 xs := fs_of len0 (Nat.le_trans lc0 lm0) fun i hi => by
    obtain ⟨b, off, cs, e, hb, hl, hc, hf⟩ := le0 i hi
    obtain ⟨n0, c0, y0, e0, t0⟩ := hf 0 _ rfl
    obtain ⟨x0, q0, -, w0⟩ := DataW.trod_int Try.underlying3 t0
    obtain rfl : c0 = _ := by simpa using q0
    obtain ⟨n1, c1, y1, e1, t1⟩ := hf 1 _ rfl
    obtain ⟨x1, q1, -, w1⟩ := DataW.trod_int Try.underlying3 t1
    obtain rfl : c1 = _ := by simpa using q1
    obtain ⟨n2, c2, y2, e2, t2⟩ := hf 2 _ rfl
    obtain ⟨x2, q2, -, w2⟩ := DataW.trod_int Try.underlying3 t2
    obtain rfl : c2 = _ := by simpa using q2
    obtain ⟨n3, c3, y3, e3, t3⟩ := hf 3 _ rfl
    obtain ⟨x3, q3, -, w3⟩ := DataW.trod_int Try.underlying3 t3
    obtain rfl : c3 = _ := by simpa using q3
    obtain ⟨n4, c4, y4, e4, t4⟩ := hf 4 _ rfl
    obtain ⟨x4, q4, -, w4⟩ := DataW.trod_int Try.underlying3 t4
    obtain rfl : c4 = _ := by simpa using q4
    have hcs := list5 hl e0 e1 e2 e3 e4
    subst hcs
    exact ⟨b, off, ⟨x0, x1, x2, x3, x4⟩, e, hb, ⟨i64_bd w0, i64_bd w1, i64_bd w2, i64_bd w3, i64_bd w4⟩, hc⟩
  obtain ⟨a1, rfl, -, -, w1⟩ := open_int Try.underlying3 (hval 1 3 v1 rfl rfl) h1
  obtain ⟨a2, rfl, -, -, w2⟩ := open_int Try.underlying3 (hval 2 3 v2 rfl rfl) h2
  obtain ⟨a3, rfl, -, -, w3⟩ := open_int Try.underlying3 (hval 3 3 v3 rfl rfl) h3
  obtain ⟨a4, rfl, -, -, w4⟩ := open_int Try.underlying3 (hval 4 3 v4 rfl rfl) h4
  clear hA0 hval0
  refine (walk_FnExactRouteBest a0 len0 cap0 z0 a1 w1 a2 w2 a3 w3 a4 w4 W w0).mono fun e W' ⟨he, bel⟩ => ?_
  subst he
  exact ⟨_, rfl, _, _, _, [], _, [], hW', trodAll_mk1 (shut_bool Try.underlying4 _), (trodAll_cons_mk (Below.trod laidOut (by kernel_rfl) (of_decide_eq_true (by kernel_rfl)) k0 bel lt0) (trodAll_cons_mk (Below.trod laidOut (by kernel_rfl) (of_decide_eq_true (by kernel_rfl)) k1 bel lt1) (trodAll_cons_mk (Below.trod laidOut (by kernel_rfl) (of_decide_eq_true (by kernel_rfl)) k2 bel lt2) (trodAll_cons_mk (Below.trod laidOut (by kernel_rfl) (of_decide_eq_true (by kernel_rfl)) k3 bel lt3) (trodAll_cons_mk (Below.trod laidOut (by kernel_rfl) (of_decide_eq_true (by kernel_rfl)) k4 bel lt4) trodAll_mk0))))), rfl, bel.frame _, fun h => by cases h⟩
theorem over : Rows.fnExactRouteBestRow.holds Try.pinned (OpenSpec.ofChange Rows.fnExactRouteBestSpec) :=
  OpenClaim.holds_of_wide 14 Try.f14 rfl rfl rfl rfl rfl rfl rfl ⟨rfl, rfl, rfl, rfl, rfl⟩ rfl rfl rfl rfl rfl (by kernel_rfl) Try.func14 (by kernel_rfl)
    (of_decide_eq_true (by kernel_rfl)) (by unfold Func.isWrapper; first | (rw [if_pos (by decide +kernel)]; kernel_rfl) | (rw [if_neg (by decide +kernel)]; exact ⟨rfl, rfl⟩))
    (fun os started H enc _ => lifted os started H enc)
/-- the given statement -/
theorem proved : Rows.FnExactRouteBestSaid := over
#print axioms proved
end Go.Proofs.Ytddfdomhapaefaa.fnExactRouteBest
