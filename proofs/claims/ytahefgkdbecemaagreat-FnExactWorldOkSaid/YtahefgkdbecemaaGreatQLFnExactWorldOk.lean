/- FnExactWorldOk: for every input the law returns true, and each argument reads afterwards as it read before. No condition. The frame of the row, by a program of the prover. -/
import Derived.Test.YtahefgkdbecemaaGreatQWWOk
import Derived.Test.YtahefgkdbecemaaGreatQ7
import Derived.Test.YtahefgkdbecemaaGreatQ8
namespace Go.Proofs.YtahefgkdbecemaaGreat.fnExactWorldOk
open Go.ChangeShapes Go.WideShapes Go.ChangeAt Go.RowKit
open Go.ChangeMaps (open_string shut_string)
set_option linter.unusedVariables false
theorem own : ownKnob Tryz.prog.godebug = none := by kernel_rfl
theorem laidOut : laidOutB Tryz.prog = true := by kernel_rfl
set_option maxRecDepth 100000 in
theorem lifted (os : Os) (started : os.Started) (H : Type) (enc : TypeId × Value → H) :
    ReturnsInHanded {} Tryz.checked os 3 .any (Rows.fnExactWorldOkSpec.pre6 enc Tryz.prog Tryz.f3 Rows.fnExactWorldOkRow.domain false) (Rows.fnExactWorldOkSpec.post enc Tryz.prog Tryz.f3 false true false false) := by
  refine returnsInHanded_of_change (C := Tryz.checked) own started (by kernel_rfl) Tryz.func3
    (ChangeSpec.witness6 (enc := enc) (C := Tryz.checked) false ⟨#[], #[.agg #[.bool false, .slice none 0 0, .slice none 0 0, .int .i64 0, .int .i64 0, .int .i64 0, .int .i64 0, .int .i64 0, .slice none 0 0, .slice none 0 0, .slice none 0 0, .int .i64 0, .slice none 0 0, .slice none 0 0, .slice none 0 0, .slice none 0 0, .slice none 0 0, .slice none 0 0, .slice none 0 0, .slice none 0 0]], []⟩ 8 (by kernel_rfl) (by kernel_rfl) (by kernel_rfl) (by kernel_rfl)) ?_
  intro W base args ds gs before hval0 hW hcnd _
  have hval : ∀ (j : Nat) t v, Tryz.f3.params[j]? = some t → args[j]? = some v → Value.okWide Tryz.prog W .any base t v := hval0
  have hW' := hW
  obtain ⟨p, q, hA0, hV, rfl, hfz, hnd⟩ := hW
  have hA : DataW.TrodAll enc Tryz.prog W 0 (fun _ => true) true Tryz.f3.params.toList args.toList ds p := hA0
  rw [Tryz.params3] at hA hval
  obtain ⟨v0, vs0, d0, ds0, p0, q0, hargs, rfl, rfl, h0, r0⟩ := trodAll_cons hA
  obtain ⟨rfl, rfl, rfl⟩ := trodAll_nil r0
  obtain rfl : args = #[v0] := by cases args; simp_all
  obtain ⟨rfl, rfl⟩ := trodVars_none hV
  have k0 := h0
  have lt0 : ∀ x ∈ p0, x.block < W.heap.size := by obtain ⟨m, hm⟩ := k0; exact DataW.trod_lt m _ _ _ hm
  obtain ⟨l0, rfl, ll0, lf0⟩ := Xy (n := 6) (L := [(0, 4), (1, 22), (2, 23), (3, 3), (4, 3), (5, 3), (6, 3), (7, 3), (8, 28), (9, 29), (10, 30), (11, 3), (12, 33), (13, 36), (14, 36), (15, 22), (16, 23), (17, 36), (18, 36), (19, 39)]) Tryz.underlying41 (by kernel_rfl) (by kernel_rfl) (hval 0 41 v0 rfl rfl) h0
  obtain ⟨n0f0, c0f0, y0f0, e0f0, t0f0⟩ := lf0 0 4 (by decide)
  obtain ⟨a0f0, q0f0, -⟩ := DataW.trod_bool Tryz.underlying4 t0f0
  obtain rfl : c0f0 = _ := by simpa using q0f0
  obtain ⟨n0f1, c0f1, y0f1, e0f1, t0f1⟩ := lf0 1 22 (by decide)
  obtain ⟨a0f1, len0f1, cap0f1, rfl, k0f1⟩ := BK Tryz.underlying22 t0f1
  obtain ⟨lm0f1, le0f1⟩ := Cd (n := 4) (L := [(0, 161)]) Tryz.underlying22 Tryz.underlying244 (by kernel_rfl) (by kernel_rfl) (of_decide_eq_true (by kernel_rfl)) k0f1
  have ce0f1 : Tryz.prog.cellsOf 244 = 1 := by kernel_rfl
  rw [ce0f1] at le0f1
  obtain ⟨z0f1, w0f1⟩ : ∃ xs, VN Bm W W.heap.size (.slice a0f1 len0f1 cap0f1) xs := IP len0f1 (Bt Tryz.underlying22 k0f1) lm0f1 fun i hi => by
    obtain ⟨b, off, cs, e, hb, hl, hc, hf⟩ := le0f1 i hi
    obtain ⟨n0, c0, y0, e0, t0⟩ := hf 0 161 (by decide)
    obtain ⟨a', l', k', rfl, kk0⟩ := BK Tryz.underlying161 t0
    obtain ⟨x0, hu⟩ := IK Tryz.underlying161 Tryz.underlying5 (by kernel_rfl) kk0
    have hcs := Mp hl e0
    subst hcs
    exact ⟨b, off, x0, .slice a' l' k', e, hb, trivial, hu, hc⟩
  obtain ⟨n0f2, c0f2, y0f2, e0f2, t0f2⟩ := lf0 2 23 (by decide)
  obtain ⟨a0f2, len0f2, cap0f2, rfl, k0f2⟩ := BK Tryz.underlying23 t0f2
  obtain ⟨lm0f2, le0f2⟩ := Cd (n := 4) (L := [(0, 3), (1, 161)]) Tryz.underlying23 Tryz.underlying246 (by kernel_rfl) (by kernel_rfl) (of_decide_eq_true (by kernel_rfl)) k0f2
  have ce0f2 : Tryz.prog.cellsOf 246 = 2 := by kernel_rfl
  rw [ce0f2] at le0f2
  obtain ⟨z0f2, w0f2⟩ : ∃ xs, VN Cc W W.heap.size (.slice a0f2 len0f2 cap0f2) xs := IP len0f2 (Bt Tryz.underlying23 k0f2) lm0f2 fun i hi => by
    obtain ⟨b, off, cs, e, hb, hl, hc, hf⟩ := le0f2 i hi
    obtain ⟨n0, c0, y0, e0, t0⟩ := hf 0 3 (by decide)
    obtain ⟨x0, q0, -, w0⟩ := DataW.trod_int Tryz.underlying3 t0
    obtain rfl : c0 = _ := by simpa using q0
    obtain ⟨n1, c1, y1, e1, t1⟩ := hf 1 161 (by decide)
    obtain ⟨a', l', k', rfl, kk1⟩ := BK Tryz.underlying161 t1
    obtain ⟨x1, hu⟩ := IK Tryz.underlying161 Tryz.underlying5 (by kernel_rfl) kk1
    have hcs := Mr hl e0 e1
    subst hcs
    exact ⟨b, off, ⟨x0, x1⟩, .slice a' l' k', e, hb, AJ w0, hu, hc⟩
  obtain ⟨n0f3, c0f3, y0f3, e0f3, t0f3⟩ := lf0 3 3 (by decide)
  obtain ⟨a0f3, q0f3, -, w0f3⟩ := DataW.trod_int Tryz.underlying3 t0f3
  obtain rfl : c0f3 = _ := by simpa using q0f3
  obtain ⟨n0f4, c0f4, y0f4, e0f4, t0f4⟩ := lf0 4 3 (by decide)
  obtain ⟨a0f4, q0f4, -, w0f4⟩ := DataW.trod_int Tryz.underlying3 t0f4
  obtain rfl : c0f4 = _ := by simpa using q0f4
  obtain ⟨n0f5, c0f5, y0f5, e0f5, t0f5⟩ := lf0 5 3 (by decide)
  obtain ⟨a0f5, q0f5, -, w0f5⟩ := DataW.trod_int Tryz.underlying3 t0f5
  obtain rfl : c0f5 = _ := by simpa using q0f5
  obtain ⟨n0f6, c0f6, y0f6, e0f6, t0f6⟩ := lf0 6 3 (by decide)
  obtain ⟨a0f6, q0f6, -, w0f6⟩ := DataW.trod_int Tryz.underlying3 t0f6
  obtain rfl : c0f6 = _ := by simpa using q0f6
  obtain ⟨n0f7, c0f7, y0f7, e0f7, t0f7⟩ := lf0 7 3 (by decide)
  obtain ⟨a0f7, q0f7, -, w0f7⟩ := DataW.trod_int Tryz.underlying3 t0f7
  obtain rfl : c0f7 = _ := by simpa using q0f7
  obtain ⟨n0f8, c0f8, y0f8, e0f8, t0f8⟩ := lf0 8 28 (by decide)
  obtain ⟨a0f8, len0f8, cap0f8, rfl, k0f8⟩ := BK Tryz.underlying28 t0f8
  obtain ⟨lm0f8, le0f8⟩ := Cd (n := 4) (L := [(0, 3), (1, 3), (2, 3), (3, 3), (4, 3), (5, 3), (6, 3)]) Tryz.underlying28 Tryz.underlying275 (by kernel_rfl) (by kernel_rfl) (of_decide_eq_true (by kernel_rfl)) k0f8
  have ce0f8 : Tryz.prog.cellsOf 275 = 7 := by kernel_rfl
  rw [ce0f8] at le0f8
  obtain ⟨z0f8, w0f8⟩ : ∃ xs, Bz W W.heap.size (.slice a0f8 len0f8 cap0f8) xs := DU (Bt Tryz.underlying28 k0f8) lm0f8 fun i hi => by
    obtain ⟨b, off, cs, e, hb, hl, hc, hf⟩ := le0f8 i hi
    obtain ⟨n0, c0, y0, e0, t0⟩ := hf 0 3 (by decide)
    obtain ⟨x0, q0, -, w0⟩ := DataW.trod_int Tryz.underlying3 t0
    obtain rfl : c0 = _ := by simpa using q0
    obtain ⟨n1, c1, y1, e1, t1⟩ := hf 1 3 (by decide)
    obtain ⟨x1, q1, -, w1⟩ := DataW.trod_int Tryz.underlying3 t1
    obtain rfl : c1 = _ := by simpa using q1
    obtain ⟨n2, c2, y2, e2, t2⟩ := hf 2 3 (by decide)
    obtain ⟨x2, q2, -, w2⟩ := DataW.trod_int Tryz.underlying3 t2
    obtain rfl : c2 = _ := by simpa using q2
    obtain ⟨n3, c3, y3, e3, t3⟩ := hf 3 3 (by decide)
    obtain ⟨x3, q3, -, w3⟩ := DataW.trod_int Tryz.underlying3 t3
    obtain rfl : c3 = _ := by simpa using q3
    obtain ⟨n4, c4, y4, e4, t4⟩ := hf 4 3 (by decide)
    obtain ⟨x4, q4, -, w4⟩ := DataW.trod_int Tryz.underlying3 t4
    obtain rfl : c4 = _ := by simpa using q4
    obtain ⟨n5, c5, y5, e5, t5⟩ := hf 5 3 (by decide)
    obtain ⟨x5, q5, -, w5⟩ := DataW.trod_int Tryz.underlying3 t5
    obtain rfl : c5 = _ := by simpa using q5
    obtain ⟨n6, c6, y6, e6, t6⟩ := hf 6 3 (by decide)
    obtain ⟨x6, q6, -, w6⟩ := DataW.trod_int Tryz.underlying3 t6
    obtain rfl : c6 = _ := by simpa using q6
    have hcs := FA hl e0 e1 e2 e3 e4 e5 e6
    subst hcs
    exact ⟨b, off, ⟨x0, x1, x2, x3, x4, x5, x6⟩, e, hb, ⟨AJ w0, AJ w1, AJ w2, AJ w3, AJ w4, AJ w5, AJ w6⟩, hc⟩
  obtain ⟨n0f9, c0f9, y0f9, e0f9, t0f9⟩ := lf0 9 29 (by decide)
  obtain ⟨a0f9, len0f9, cap0f9, rfl, k0f9⟩ := BK Tryz.underlying29 t0f9
  obtain ⟨lm0f9, le0f9⟩ := Cd (n := 4) (L := [(0, 3), (1, 3), (2, 3), (3, 3), (4, 3), (5, 4), (6, 3)]) Tryz.underlying29 Tryz.underlying277 (by kernel_rfl) (by kernel_rfl) (of_decide_eq_true (by kernel_rfl)) k0f9
  have ce0f9 : Tryz.prog.cellsOf 277 = 7 := by kernel_rfl
  rw [ce0f9] at le0f9
  obtain ⟨z0f9, w0f9⟩ : ∃ xs, DC W W.heap.size (.slice a0f9 len0f9 cap0f9) xs := DU (Bt Tryz.underlying29 k0f9) lm0f9 fun i hi => by
    obtain ⟨b, off, cs, e, hb, hl, hc, hf⟩ := le0f9 i hi
    obtain ⟨n0, c0, y0, e0, t0⟩ := hf 0 3 (by decide)
    obtain ⟨x0, q0, -, w0⟩ := DataW.trod_int Tryz.underlying3 t0
    obtain rfl : c0 = _ := by simpa using q0
    obtain ⟨n1, c1, y1, e1, t1⟩ := hf 1 3 (by decide)
    obtain ⟨x1, q1, -, w1⟩ := DataW.trod_int Tryz.underlying3 t1
    obtain rfl : c1 = _ := by simpa using q1
    obtain ⟨n2, c2, y2, e2, t2⟩ := hf 2 3 (by decide)
    obtain ⟨x2, q2, -, w2⟩ := DataW.trod_int Tryz.underlying3 t2
    obtain rfl : c2 = _ := by simpa using q2
    obtain ⟨n3, c3, y3, e3, t3⟩ := hf 3 3 (by decide)
    obtain ⟨x3, q3, -, w3⟩ := DataW.trod_int Tryz.underlying3 t3
    obtain rfl : c3 = _ := by simpa using q3
    obtain ⟨n4, c4, y4, e4, t4⟩ := hf 4 3 (by decide)
    obtain ⟨x4, q4, -, w4⟩ := DataW.trod_int Tryz.underlying3 t4
    obtain rfl : c4 = _ := by simpa using q4
    obtain ⟨n5, c5, y5, e5, t5⟩ := hf 5 4 (by decide)
    obtain ⟨x5, q5, -⟩ := DataW.trod_bool Tryz.underlying4 t5
    obtain rfl : c5 = _ := by simpa using q5
    obtain ⟨n6, c6, y6, e6, t6⟩ := hf 6 3 (by decide)
    obtain ⟨x6, q6, -, w6⟩ := DataW.trod_int Tryz.underlying3 t6
    obtain rfl : c6 = _ := by simpa using q6
    have hcs := FA hl e0 e1 e2 e3 e4 e5 e6
    subst hcs
    exact ⟨b, off, ⟨x0, x1, x2, x3, x4, x5, x6⟩, e, hb, ⟨AJ w0, AJ w1, AJ w2, AJ w3, AJ w4, trivial, AJ w6⟩, hc⟩
  obtain ⟨n0f10, c0f10, y0f10, e0f10, t0f10⟩ := lf0 10 30 (by decide)
  obtain ⟨a0f10, len0f10, cap0f10, rfl, k0f10⟩ := BK Tryz.underlying30 t0f10
  obtain ⟨lm0f10, le0f10⟩ := Cd (n := 4) (L := [(0, 3), (1, 3), (2, 3), (3, 3), (4, 3)]) Tryz.underlying30 Tryz.underlying279 (by kernel_rfl) (by kernel_rfl) (of_decide_eq_true (by kernel_rfl)) k0f10
  have ce0f10 : Tryz.prog.cellsOf 279 = 5 := by kernel_rfl
  rw [ce0f10] at le0f10
  obtain ⟨z0f10, w0f10⟩ : ∃ xs, DA W W.heap.size (.slice a0f10 len0f10 cap0f10) xs := DU (Bt Tryz.underlying30 k0f10) lm0f10 fun i hi => by
    obtain ⟨b, off, cs, e, hb, hl, hc, hf⟩ := le0f10 i hi
    obtain ⟨n0, c0, y0, e0, t0⟩ := hf 0 3 (by decide)
    obtain ⟨x0, q0, -, w0⟩ := DataW.trod_int Tryz.underlying3 t0
    obtain rfl : c0 = _ := by simpa using q0
    obtain ⟨n1, c1, y1, e1, t1⟩ := hf 1 3 (by decide)
    obtain ⟨x1, q1, -, w1⟩ := DataW.trod_int Tryz.underlying3 t1
    obtain rfl : c1 = _ := by simpa using q1
    obtain ⟨n2, c2, y2, e2, t2⟩ := hf 2 3 (by decide)
    obtain ⟨x2, q2, -, w2⟩ := DataW.trod_int Tryz.underlying3 t2
    obtain rfl : c2 = _ := by simpa using q2
    obtain ⟨n3, c3, y3, e3, t3⟩ := hf 3 3 (by decide)
    obtain ⟨x3, q3, -, w3⟩ := DataW.trod_int Tryz.underlying3 t3
    obtain rfl : c3 = _ := by simpa using q3
    obtain ⟨n4, c4, y4, e4, t4⟩ := hf 4 3 (by decide)
    obtain ⟨x4, q4, -, w4⟩ := DataW.trod_int Tryz.underlying3 t4
    obtain rfl : c4 = _ := by simpa using q4
    have hcs := WG hl e0 e1 e2 e3 e4
    subst hcs
    exact ⟨b, off, ⟨x0, x1, x2, x3, x4⟩, e, hb, ⟨AJ w0, AJ w1, AJ w2, AJ w3, AJ w4⟩, hc⟩
  obtain ⟨n0f11, c0f11, y0f11, e0f11, t0f11⟩ := lf0 11 3 (by decide)
  obtain ⟨a0f11, q0f11, -, w0f11⟩ := DataW.trod_int Tryz.underlying3 t0f11
  obtain rfl : c0f11 = _ := by simpa using q0f11
  obtain ⟨n0f12, c0f12, y0f12, e0f12, t0f12⟩ := lf0 12 33 (by decide)
  obtain ⟨a0f12, len0f12, cap0f12, rfl, k0f12⟩ := BK Tryz.underlying33 t0f12
  obtain ⟨lm0f12, le0f12⟩ := Cd (n := 4) (L := [(0, 3), (1, 3), (2, 3)]) Tryz.underlying33 Tryz.underlying283 (by kernel_rfl) (by kernel_rfl) (of_decide_eq_true (by kernel_rfl)) k0f12
  have ce0f12 : Tryz.prog.cellsOf 283 = 3 := by kernel_rfl
  rw [ce0f12] at le0f12
  obtain ⟨z0f12, w0f12⟩ : ∃ xs, BE W W.heap.size (.slice a0f12 len0f12 cap0f12) xs := DU (Bt Tryz.underlying33 k0f12) lm0f12 fun i hi => by
    obtain ⟨b, off, cs, e, hb, hl, hc, hf⟩ := le0f12 i hi
    obtain ⟨n0, c0, y0, e0, t0⟩ := hf 0 3 (by decide)
    obtain ⟨x0, q0, -, w0⟩ := DataW.trod_int Tryz.underlying3 t0
    obtain rfl : c0 = _ := by simpa using q0
    obtain ⟨n1, c1, y1, e1, t1⟩ := hf 1 3 (by decide)
    obtain ⟨x1, q1, -, w1⟩ := DataW.trod_int Tryz.underlying3 t1
    obtain rfl : c1 = _ := by simpa using q1
    obtain ⟨n2, c2, y2, e2, t2⟩ := hf 2 3 (by decide)
    obtain ⟨x2, q2, -, w2⟩ := DataW.trod_int Tryz.underlying3 t2
    obtain rfl : c2 = _ := by simpa using q2
    have hcs := Vw hl e0 e1 e2
    subst hcs
    exact ⟨b, off, ⟨x0, x1, x2⟩, e, hb, ⟨AJ w0, AJ w1, AJ w2⟩, hc⟩
  obtain ⟨n0f13, c0f13, y0f13, e0f13, t0f13⟩ := lf0 13 36 (by decide)
  obtain ⟨a0f13, len0f13, cap0f13, rfl, k0f13⟩ := BK Tryz.underlying36 t0f13
  obtain ⟨lm0f13, le0f13⟩ := Cd (n := 4) (L := [(0, 3), (1, 3), (2, 3), (3, 3), (4, 3), (5, 3), (6, 4)]) Tryz.underlying36 Tryz.underlying68 (by kernel_rfl) (by kernel_rfl) (of_decide_eq_true (by kernel_rfl)) k0f13
  have ce0f13 : Tryz.prog.cellsOf 68 = 7 := by kernel_rfl
  rw [ce0f13] at le0f13
  obtain ⟨z0f13, w0f13⟩ : ∃ xs, Bf W W.heap.size (.slice a0f13 len0f13 cap0f13) xs := DU (Bt Tryz.underlying36 k0f13) lm0f13 fun i hi => by
    obtain ⟨b, off, cs, e, hb, hl, hc, hf⟩ := le0f13 i hi
    obtain ⟨n0, c0, y0, e0, t0⟩ := hf 0 3 (by decide)
    obtain ⟨x0, q0, -, w0⟩ := DataW.trod_int Tryz.underlying3 t0
    obtain rfl : c0 = _ := by simpa using q0
    obtain ⟨n1, c1, y1, e1, t1⟩ := hf 1 3 (by decide)
    obtain ⟨x1, q1, -, w1⟩ := DataW.trod_int Tryz.underlying3 t1
    obtain rfl : c1 = _ := by simpa using q1
    obtain ⟨n2, c2, y2, e2, t2⟩ := hf 2 3 (by decide)
    obtain ⟨x2, q2, -, w2⟩ := DataW.trod_int Tryz.underlying3 t2
    obtain rfl : c2 = _ := by simpa using q2
    obtain ⟨n3, c3, y3, e3, t3⟩ := hf 3 3 (by decide)
    obtain ⟨x3, q3, -, w3⟩ := DataW.trod_int Tryz.underlying3 t3
    obtain rfl : c3 = _ := by simpa using q3
    obtain ⟨n4, c4, y4, e4, t4⟩ := hf 4 3 (by decide)
    obtain ⟨x4, q4, -, w4⟩ := DataW.trod_int Tryz.underlying3 t4
    obtain rfl : c4 = _ := by simpa using q4
    obtain ⟨n5, c5, y5, e5, t5⟩ := hf 5 3 (by decide)
    obtain ⟨x5, q5, -, w5⟩ := DataW.trod_int Tryz.underlying3 t5
    obtain rfl : c5 = _ := by simpa using q5
    obtain ⟨n6, c6, y6, e6, t6⟩ := hf 6 4 (by decide)
    obtain ⟨x6, q6, -⟩ := DataW.trod_bool Tryz.underlying4 t6
    obtain rfl : c6 = _ := by simpa using q6
    have hcs := FA hl e0 e1 e2 e3 e4 e5 e6
    subst hcs
    exact ⟨b, off, ⟨x0, x1, x2, x3, x4, x5, x6⟩, e, hb, ⟨AJ w0, AJ w1, AJ w2, AJ w3, AJ w4, AJ w5, trivial⟩, hc⟩
  obtain ⟨n0f14, c0f14, y0f14, e0f14, t0f14⟩ := lf0 14 36 (by decide)
  obtain ⟨a0f14, len0f14, cap0f14, rfl, k0f14⟩ := BK Tryz.underlying36 t0f14
  obtain ⟨lm0f14, le0f14⟩ := Cd (n := 4) (L := [(0, 3), (1, 3), (2, 3), (3, 3), (4, 3), (5, 3), (6, 4)]) Tryz.underlying36 Tryz.underlying68 (by kernel_rfl) (by kernel_rfl) (of_decide_eq_true (by kernel_rfl)) k0f14
  have ce0f14 : Tryz.prog.cellsOf 68 = 7 := by kernel_rfl
  rw [ce0f14] at le0f14
  obtain ⟨z0f14, w0f14⟩ : ∃ xs, Bf W W.heap.size (.slice a0f14 len0f14 cap0f14) xs := DU (Bt Tryz.underlying36 k0f14) lm0f14 fun i hi => by
    obtain ⟨b, off, cs, e, hb, hl, hc, hf⟩ := le0f14 i hi
    obtain ⟨n0, c0, y0, e0, t0⟩ := hf 0 3 (by decide)
    obtain ⟨x0, q0, -, w0⟩ := DataW.trod_int Tryz.underlying3 t0
    obtain rfl : c0 = _ := by simpa using q0
    obtain ⟨n1, c1, y1, e1, t1⟩ := hf 1 3 (by decide)
    obtain ⟨x1, q1, -, w1⟩ := DataW.trod_int Tryz.underlying3 t1
    obtain rfl : c1 = _ := by simpa using q1
    obtain ⟨n2, c2, y2, e2, t2⟩ := hf 2 3 (by decide)
    obtain ⟨x2, q2, -, w2⟩ := DataW.trod_int Tryz.underlying3 t2
    obtain rfl : c2 = _ := by simpa using q2
    obtain ⟨n3, c3, y3, e3, t3⟩ := hf 3 3 (by decide)
    obtain ⟨x3, q3, -, w3⟩ := DataW.trod_int Tryz.underlying3 t3
    obtain rfl : c3 = _ := by simpa using q3
    obtain ⟨n4, c4, y4, e4, t4⟩ := hf 4 3 (by decide)
    obtain ⟨x4, q4, -, w4⟩ := DataW.trod_int Tryz.underlying3 t4
    obtain rfl : c4 = _ := by simpa using q4
    obtain ⟨n5, c5, y5, e5, t5⟩ := hf 5 3 (by decide)
    obtain ⟨x5, q5, -, w5⟩ := DataW.trod_int Tryz.underlying3 t5
    obtain rfl : c5 = _ := by simpa using q5
    obtain ⟨n6, c6, y6, e6, t6⟩ := hf 6 4 (by decide)
    obtain ⟨x6, q6, -⟩ := DataW.trod_bool Tryz.underlying4 t6
    obtain rfl : c6 = _ := by simpa using q6
    have hcs := FA hl e0 e1 e2 e3 e4 e5 e6
    subst hcs
    exact ⟨b, off, ⟨x0, x1, x2, x3, x4, x5, x6⟩, e, hb, ⟨AJ w0, AJ w1, AJ w2, AJ w3, AJ w4, AJ w5, trivial⟩, hc⟩
  obtain ⟨n0f15, c0f15, y0f15, e0f15, t0f15⟩ := lf0 15 22 (by decide)
  obtain ⟨a0f15, len0f15, cap0f15, rfl, k0f15⟩ := BK Tryz.underlying22 t0f15
  obtain ⟨lm0f15, le0f15⟩ := Cd (n := 4) (L := [(0, 161)]) Tryz.underlying22 Tryz.underlying244 (by kernel_rfl) (by kernel_rfl) (of_decide_eq_true (by kernel_rfl)) k0f15
  have ce0f15 : Tryz.prog.cellsOf 244 = 1 := by kernel_rfl
  rw [ce0f15] at le0f15
  obtain ⟨z0f15, w0f15⟩ : ∃ xs, VN Bm W W.heap.size (.slice a0f15 len0f15 cap0f15) xs := IP len0f15 (Bt Tryz.underlying22 k0f15) lm0f15 fun i hi => by
    obtain ⟨b, off, cs, e, hb, hl, hc, hf⟩ := le0f15 i hi
    obtain ⟨n0, c0, y0, e0, t0⟩ := hf 0 161 (by decide)
    obtain ⟨a', l', k', rfl, kk0⟩ := BK Tryz.underlying161 t0
    obtain ⟨x0, hu⟩ := IK Tryz.underlying161 Tryz.underlying5 (by kernel_rfl) kk0
    have hcs := Mp hl e0
    subst hcs
    exact ⟨b, off, x0, .slice a' l' k', e, hb, trivial, hu, hc⟩
  obtain ⟨n0f16, c0f16, y0f16, e0f16, t0f16⟩ := lf0 16 23 (by decide)
  obtain ⟨a0f16, len0f16, cap0f16, rfl, k0f16⟩ := BK Tryz.underlying23 t0f16
  obtain ⟨lm0f16, le0f16⟩ := Cd (n := 4) (L := [(0, 3), (1, 161)]) Tryz.underlying23 Tryz.underlying246 (by kernel_rfl) (by kernel_rfl) (of_decide_eq_true (by kernel_rfl)) k0f16
  have ce0f16 : Tryz.prog.cellsOf 246 = 2 := by kernel_rfl
  rw [ce0f16] at le0f16
  obtain ⟨z0f16, w0f16⟩ : ∃ xs, VN Cc W W.heap.size (.slice a0f16 len0f16 cap0f16) xs := IP len0f16 (Bt Tryz.underlying23 k0f16) lm0f16 fun i hi => by
    obtain ⟨b, off, cs, e, hb, hl, hc, hf⟩ := le0f16 i hi
    obtain ⟨n0, c0, y0, e0, t0⟩ := hf 0 3 (by decide)
    obtain ⟨x0, q0, -, w0⟩ := DataW.trod_int Tryz.underlying3 t0
    obtain rfl : c0 = _ := by simpa using q0
    obtain ⟨n1, c1, y1, e1, t1⟩ := hf 1 161 (by decide)
    obtain ⟨a', l', k', rfl, kk1⟩ := BK Tryz.underlying161 t1
    obtain ⟨x1, hu⟩ := IK Tryz.underlying161 Tryz.underlying5 (by kernel_rfl) kk1
    have hcs := Mr hl e0 e1
    subst hcs
    exact ⟨b, off, ⟨x0, x1⟩, .slice a' l' k', e, hb, AJ w0, hu, hc⟩
  obtain ⟨n0f17, c0f17, y0f17, e0f17, t0f17⟩ := lf0 17 36 (by decide)
  obtain ⟨a0f17, len0f17, cap0f17, rfl, k0f17⟩ := BK Tryz.underlying36 t0f17
  obtain ⟨lm0f17, le0f17⟩ := Cd (n := 4) (L := [(0, 3), (1, 3), (2, 3), (3, 3), (4, 3), (5, 3), (6, 4)]) Tryz.underlying36 Tryz.underlying68 (by kernel_rfl) (by kernel_rfl) (of_decide_eq_true (by kernel_rfl)) k0f17
  have ce0f17 : Tryz.prog.cellsOf 68 = 7 := by kernel_rfl
  rw [ce0f17] at le0f17
  obtain ⟨z0f17, w0f17⟩ : ∃ xs, Bf W W.heap.size (.slice a0f17 len0f17 cap0f17) xs := DU (Bt Tryz.underlying36 k0f17) lm0f17 fun i hi => by
    obtain ⟨b, off, cs, e, hb, hl, hc, hf⟩ := le0f17 i hi
    obtain ⟨n0, c0, y0, e0, t0⟩ := hf 0 3 (by decide)
    obtain ⟨x0, q0, -, w0⟩ := DataW.trod_int Tryz.underlying3 t0
    obtain rfl : c0 = _ := by simpa using q0
    obtain ⟨n1, c1, y1, e1, t1⟩ := hf 1 3 (by decide)
    obtain ⟨x1, q1, -, w1⟩ := DataW.trod_int Tryz.underlying3 t1
    obtain rfl : c1 = _ := by simpa using q1
    obtain ⟨n2, c2, y2, e2, t2⟩ := hf 2 3 (by decide)
    obtain ⟨x2, q2, -, w2⟩ := DataW.trod_int Tryz.underlying3 t2
    obtain rfl : c2 = _ := by simpa using q2
    obtain ⟨n3, c3, y3, e3, t3⟩ := hf 3 3 (by decide)
    obtain ⟨x3, q3, -, w3⟩ := DataW.trod_int Tryz.underlying3 t3
    obtain rfl : c3 = _ := by simpa using q3
    obtain ⟨n4, c4, y4, e4, t4⟩ := hf 4 3 (by decide)
    obtain ⟨x4, q4, -, w4⟩ := DataW.trod_int Tryz.underlying3 t4
    obtain rfl : c4 = _ := by simpa using q4
    obtain ⟨n5, c5, y5, e5, t5⟩ := hf 5 3 (by decide)
    obtain ⟨x5, q5, -, w5⟩ := DataW.trod_int Tryz.underlying3 t5
    obtain rfl : c5 = _ := by simpa using q5
    obtain ⟨n6, c6, y6, e6, t6⟩ := hf 6 4 (by decide)
    obtain ⟨x6, q6, -⟩ := DataW.trod_bool Tryz.underlying4 t6
    obtain rfl : c6 = _ := by simpa using q6
    have hcs := FA hl e0 e1 e2 e3 e4 e5 e6
    subst hcs
    exact ⟨b, off, ⟨x0, x1, x2, x3, x4, x5, x6⟩, e, hb, ⟨AJ w0, AJ w1, AJ w2, AJ w3, AJ w4, AJ w5, trivial⟩, hc⟩
  obtain ⟨n0f18, c0f18, y0f18, e0f18, t0f18⟩ := lf0 18 36 (by decide)
  obtain ⟨a0f18, len0f18, cap0f18, rfl, k0f18⟩ := BK Tryz.underlying36 t0f18
  obtain ⟨lm0f18, le0f18⟩ := Cd (n := 4) (L := [(0, 3), (1, 3), (2, 3), (3, 3), (4, 3), (5, 3), (6, 4)]) Tryz.underlying36 Tryz.underlying68 (by kernel_rfl) (by kernel_rfl) (of_decide_eq_true (by kernel_rfl)) k0f18
  have ce0f18 : Tryz.prog.cellsOf 68 = 7 := by kernel_rfl
  rw [ce0f18] at le0f18
  obtain ⟨z0f18, w0f18⟩ : ∃ xs, Bf W W.heap.size (.slice a0f18 len0f18 cap0f18) xs := DU (Bt Tryz.underlying36 k0f18) lm0f18 fun i hi => by
    obtain ⟨b, off, cs, e, hb, hl, hc, hf⟩ := le0f18 i hi
    obtain ⟨n0, c0, y0, e0, t0⟩ := hf 0 3 (by decide)
    obtain ⟨x0, q0, -, w0⟩ := DataW.trod_int Tryz.underlying3 t0
    obtain rfl : c0 = _ := by simpa using q0
    obtain ⟨n1, c1, y1, e1, t1⟩ := hf 1 3 (by decide)
    obtain ⟨x1, q1, -, w1⟩ := DataW.trod_int Tryz.underlying3 t1
    obtain rfl : c1 = _ := by simpa using q1
    obtain ⟨n2, c2, y2, e2, t2⟩ := hf 2 3 (by decide)
    obtain ⟨x2, q2, -, w2⟩ := DataW.trod_int Tryz.underlying3 t2
    obtain rfl : c2 = _ := by simpa using q2
    obtain ⟨n3, c3, y3, e3, t3⟩ := hf 3 3 (by decide)
    obtain ⟨x3, q3, -, w3⟩ := DataW.trod_int Tryz.underlying3 t3
    obtain rfl : c3 = _ := by simpa using q3
    obtain ⟨n4, c4, y4, e4, t4⟩ := hf 4 3 (by decide)
    obtain ⟨x4, q4, -, w4⟩ := DataW.trod_int Tryz.underlying3 t4
    obtain rfl : c4 = _ := by simpa using q4
    obtain ⟨n5, c5, y5, e5, t5⟩ := hf 5 3 (by decide)
    obtain ⟨x5, q5, -, w5⟩ := DataW.trod_int Tryz.underlying3 t5
    obtain rfl : c5 = _ := by simpa using q5
    obtain ⟨n6, c6, y6, e6, t6⟩ := hf 6 4 (by decide)
    obtain ⟨x6, q6, -⟩ := DataW.trod_bool Tryz.underlying4 t6
    obtain rfl : c6 = _ := by simpa using q6
    have hcs := FA hl e0 e1 e2 e3 e4 e5 e6
    subst hcs
    exact ⟨b, off, ⟨x0, x1, x2, x3, x4, x5, x6⟩, e, hb, ⟨AJ w0, AJ w1, AJ w2, AJ w3, AJ w4, AJ w5, trivial⟩, hc⟩
  obtain ⟨n0f19, c0f19, y0f19, e0f19, t0f19⟩ := lf0 19 39 (by decide)
  obtain ⟨a0f19, len0f19, cap0f19, rfl, k0f19⟩ := BK Tryz.underlying39 t0f19
  obtain ⟨z0f19, w0f19⟩ := XA Tryz.underlying39 Tryz.underlying3 (by kernel_rfl) k0f19
  obtain rfl : l0 = [.bool a0f0, .slice a0f1 len0f1 cap0f1, .slice a0f2 len0f2 cap0f2, .int .i64 a0f3, .int .i64 a0f4, .int .i64 a0f5, .int .i64 a0f6, .int .i64 a0f7, .slice a0f8 len0f8 cap0f8, .slice a0f9 len0f9 cap0f9, .slice a0f10 len0f10 cap0f10, .int .i64 a0f11, .slice a0f12 len0f12 cap0f12, .slice a0f13 len0f13 cap0f13, .slice a0f14 len0f14 cap0f14, .slice a0f15 len0f15 cap0f15, .slice a0f16 len0f16 cap0f16, .slice a0f17 len0f17 cap0f17, .slice a0f18 len0f18 cap0f18, .slice a0f19 len0f19 cap0f19] := VU (ll0.trans (by kernel_rfl)) (fun j hj => match j, hj with | 0, _ => e0f0 | 1, _ => e0f1 | 2, _ => e0f2 | 3, _ => e0f3 | 4, _ => e0f4 | 5, _ => e0f5 | 6, _ => e0f6 | 7, _ => e0f7 | 8, _ => e0f8 | 9, _ => e0f9 | 10, _ => e0f10 | 11, _ => e0f11 | 12, _ => e0f12 | 13, _ => e0f13 | 14, _ => e0f14 | 15, _ => e0f15 | 16, _ => e0f16 | 17, _ => e0f17 | 18, _ => e0f18 | 19, _ => e0f19 | j + 20, hj => absurd hj (by simp))
  clear hA0 hval0
  refine (A1E _ _ _ _ _ _ _ _ _ _ _ _ _ ⟨a0f0, ⟨⟨⟨z0f1, z0f2⟩, a0f3, a0f4⟩, ⟨a0f5, a0f6, a0f7, z0f8, z0f9, z0f10⟩, ⟨a0f11, z0f12⟩, z0f13, z0f14⟩, ⟨z0f15, z0f16⟩, z0f17, z0f18, z0f19⟩ W ⟨⟨⟨⟨w0f1, w0f2⟩, AJ w0f3, AJ w0f4⟩, ⟨w0f8, w0f9, w0f10, AJ w0f5, AJ w0f6, AJ w0f7⟩, ⟨w0f12, AJ w0f11⟩, w0f13, w0f14⟩, ⟨w0f15, w0f16⟩, w0f17, w0f18, w0f19⟩).mono fun e W' ⟨he, bel⟩ => ?_
  subst he
  exact ⟨_, rfl, _, _, _, [], _, [], hW', trodAll_mk1 (shut_bool Tryz.underlying4 _), (trodAll_cons_mk (Below.trod laidOut (by kernel_rfl) (of_decide_eq_true (by kernel_rfl)) k0 bel lt0) trodAll_mk0), rfl, bel.frame _, fun h => by cases h⟩
theorem and_t {a b : Bool} (h : a = true) (h2 : b = true) : (a && b) = true := by rw [h, h2]; rfl
set_option maxHeartbeats 12800000 in
theorem closed : joinedFacts Tryz.pinned.checked.prog 3 Tryz.f3 Rows.fnExactWorldOkSpec Rows.fnExactWorldOkRow = true := by
  unfold joinedFacts
  repeat' (with_reducible apply and_t)
  all_goals (as_aux_lemma => kernel_rfl)
theorem over : Rows.fnExactWorldOkRow.holds Tryz.pinned (OpenSpec.ofChange Rows.fnExactWorldOkSpec) :=
  OpenClaim.holds_of_wide 3 Tryz.f3 rfl rfl rfl rfl rfl rfl rfl ⟨rfl, rfl, rfl, rfl, rfl⟩ rfl rfl rfl rfl rfl (by kernel_rfl) Tryz.func3 closed
    (of_decide_eq_true (by kernel_rfl)) (by unfold Func.isWrapper; first | (rw [if_pos (by decide +kernel)]; kernel_rfl) | (rw [if_neg (by decide +kernel)]; exact ⟨rfl, rfl⟩))
    (fun os started H enc _ => lifted os started H enc)
/-- the given statement -/
theorem proved : Rows.FnExactWorldOkSaid := over
#print axioms proved
end Go.Proofs.YtahefgkdbecemaaGreat.fnExactWorldOk
