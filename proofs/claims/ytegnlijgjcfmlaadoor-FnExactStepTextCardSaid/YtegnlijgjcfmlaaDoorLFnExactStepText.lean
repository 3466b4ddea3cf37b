/- FnExactStepText: for every input, in every world in which the listed variables hold what the program lays there, the law returns true and each argument reads afterwards as it read before; and the tied card. The frame by a program of the prover. -/
import Derived.Test.YtegnlijgjcfmlaaDoorStW
import Derived.Test.YtegnlijgjcfmlaaDoorOpen
import Derived.Test.YtegnlijgjcfmlaaDoorOpenN
import Derived.Test.YtegnlijgjcfmlaaDoorCards
import Derived.Test.YtegnlijgjcfmlaaDoorTie
import Derived.Test.YtegnlijgjcfmlaaDoorCardS
import Derived.Stop.LaidErr
import Derived.Shelf.Vars
import Derived.Lay
import Derived.MakeChecks
import Derived.ChangeSame
import Derived.ChangeVars
import Derived.JoinedOf
import Derived.RowKitTokens
import Derived.LaidLaws
import Derived.LaidSub
import Derived.LaidMore
import Derived.LaidHandle
import Derived.Stop.Joined
import Derived.SevenTiedAt
namespace Go.Proofs.YtegnlijgjcfmlaaDoor.fnExactStepText
open Go.ChangeShapes Go.WideShapes Go.ChangeAt Go.RowKit
open Go.ChangeMaps (open_string shut_string)
set_option linter.unusedVariables false
theorem own : ownKnob Tryd.prog.godebug = none := by kernel_rfl
theorem laidOut : laidOutB Tryd.prog = true := by kernel_rfl
abbrev listed : List (String × DataW Unit) := Rows.fnExactStepTextRow.laid
set_option maxRecDepth 100000 in
theorem need0_FnExactStepText {W : World} (h : laidMetH Tryd.prog listed W) : Pow W := by
  rw [MakeChecks.laidMetH_plain _ _ _ (by kernel_rfl)] at h
  have h2 := laidMet.filter (fun x => x.1 == "internal/strconv.uint64pow10") h
  have e : listed.filter (fun x => x.1 == "internal/strconv.uint64pow10") = [("internal/strconv.uint64pow10", Lib.tabData .u64 Lib.pow10Tab)] := by rfl
  rw [e] at h2
  exact Lib.tabIs_of_head (g := 1) (t := 162) (e := 146) (n := 20) (by kernel_rfl) (by kernel_rfl) Tryd.underlying162 Tryd.underlying146 (by kernel_rfl) (by kernel_rfl) h2
set_option maxRecDepth 100000 in
theorem need_FnExactStepText {W : World} (h : laidMetH Tryd.prog listed W) (hs : W.ShapedOpen Tryd.prog) : PM W :=
  ⟨need0_FnExactStepText h, cell_of_shapedOpen_int (P := Tryd.prog) (g := 0) (t := 3) (zero := #[.int .i64 0]) hs (of_decide_eq_true (by kernel_rfl)) (by kernel_rfl) rfl (by kernel_rfl) (by kernel_rfl) (by kernel_rfl)⟩
set_option maxRecDepth 100000 in
theorem start_met (os : Os) (args : Array Value) : laidMetH Tryd.prog listed ((World.laidAll Tryd.prog os listed).forCall (fun _ _ => 0) ⟨#[], args, []⟩).memory := by
  rw [MakeChecks.laidMetH_plain _ _ _ (by kernel_rfl)]
  exact laidMet_laidAll _ (by kernel_rfl) (by kernel_rfl)
set_option maxRecDepth 100000 in
theorem lifted (os : Os) (started : os.Started) (H : Type) (enc : TypeId × Value → H) :
    ReturnsInHanded {} Tryd.checked os 8 .any (fun w args => (Rows.fnExactStepTextSpec.pre enc Tryd.prog Tryd.f8 [] false w args ∧ laidMetH Tryd.prog listed w) ∧ sizedMet enc Tryd.prog Tryd.f8 (OpenSpec.ofChange Rows.fnExactStepTextSpec) false w args)
      (Rows.fnExactStepTextSpec.post enc Tryd.prog Tryd.f8 false true false false) := by
  refine handed_shaped (C := Tryd.checked) (X := fun w _ => laidMetH Tryd.prog listed w) (fun _ _ _ hh h => h.of_heap hh) own started (by kernel_rfl) Tryd.func8
    (ChangeSpec.witness_shaped (enc := enc) (C := Tryd.checked) (os := os) (X := fun w _ => laidMetH Tryd.prog listed w) false (World.laidAll Tryd.prog os listed) #[.agg #[.int .i64 0, .int .i64 0, .int .i64 0, .int .i64 0, .int .i64 0, .int .i64 0, .int .i64 0, .bool false, .slice none 0 0, .int .i64 0, .int .i64 0, .int .i64 0, .int .i64 0, .int .i64 0]] 8 (World.laidAll_os _ _ _) (World.shaped_of_ZipB (by kernel_rfl) (by kernel_rfl)) (by kernel_rfl) (by kernel_rfl) (by kernel_rfl) (start_met os _)) ?_
  intro W base args ds gs before hval0 hW hL hSh
  have hval : ∀ (j : Nat) t v, Tryd.f8.params[j]? = some t → args[j]? = some v → Value.okWide Tryd.prog W .any base t v := hval0
  have hW' := hW
  obtain ⟨p, q, hA0, hV, rfl, hfz, hnd⟩ := hW
  have hA : DataW.TrodAll enc Tryd.prog W 0 (fun _ => true) true Tryd.f8.params.toList args.toList ds p := hA0
  rw [Tryd.params8] at hA hval
  obtain ⟨v0, vs0, d0, ds0, p0, q0, hargs, rfl, rfl, h0, r0⟩ := trodAll_cons hA
  obtain ⟨rfl, rfl, rfl⟩ := trodAll_nil r0
  obtain rfl : args = #[v0] := by cases args; simp_all
  obtain ⟨rfl, rfl⟩ := trodVars_none hV
  have k0 := h0
  have lt0 : ∀ x ∈ p0, x.block < W.heap.size := by obtain ⟨m, hm⟩ := k0; exact DataW.trod_lt m _ _ _ hm
  obtain ⟨l0, rfl, ll0, lf0⟩ := open_leafs (n := 6) (L := [(0, 3), (1, 3), (2, 3), (3, 3), (4, 3), (5, 3), (6, 3), (7, 4), (8, 26), (9, 3), (10, 3), (11, 3), (12, 3), (13, 3)]) Tryd.underlying60 (by kernel_rfl) (by kernel_rfl) (hval 0 60 v0 rfl rfl) h0
  obtain ⟨n0f0, c0f0, y0f0, e0f0, t0f0⟩ := lf0 0 3 (by decide)
  obtain ⟨a0f0, q0f0, -, w0f0⟩ := DataW.trod_int Tryd.underlying3 t0f0
  obtain rfl : c0f0 = _ := by simpa using q0f0
  obtain ⟨n0f1, c0f1, y0f1, e0f1, t0f1⟩ := lf0 1 3 (by decide)
  obtain ⟨a0f1, q0f1, -, w0f1⟩ := DataW.trod_int Tryd.underlying3 t0f1
  obtain rfl : c0f1 = _ := by simpa using q0f1
  obtain ⟨n0f2, c0f2, y0f2, e0f2, t0f2⟩ := lf0 2 3 (by decide)
  obtain ⟨a0f2, q0f2, -, w0f2⟩ := DataW.trod_int Tryd.underlying3 t0f2
  obtain rfl : c0f2 = _ := by simpa using q0f2
  obtain ⟨n0f3, c0f3, y0f3, e0f3, t0f3⟩ := lf0 3 3 (by decide)
  obtain ⟨a0f3, q0f3, -, w0f3⟩ := DataW.trod_int Tryd.underlying3 t0f3
  obtain rfl : c0f3 = _ := by simpa using q0f3
  obtain ⟨n0f4, c0f4, y0f4, e0f4, t0f4⟩ := lf0 4 3 (by decide)
  obtain ⟨a0f4, q0f4, -, w0f4⟩ := DataW.trod_int Tryd.underlying3 t0f4
  obtain rfl : c0f4 = _ := by simpa using q0f4
  obtain ⟨n0f5, c0f5, y0f5, e0f5, t0f5⟩ := lf0 5 3 (by decide)
  obtain ⟨a0f5, q0f5, -, w0f5⟩ := DataW.trod_int Tryd.underlying3 t0f5
  obtain rfl : c0f5 = _ := by simpa using q0f5
  obtain ⟨n0f6, c0f6, y0f6, e0f6, t0f6⟩ := lf0 6 3 (by decide)
  obtain ⟨a0f6, q0f6, -, w0f6⟩ := DataW.trod_int Tryd.underlying3 t0f6
  obtain rfl : c0f6 = _ := by simpa using q0f6
  obtain ⟨n0f7, c0f7, y0f7, e0f7, t0f7⟩ := lf0 7 4 (by decide)
  obtain ⟨a0f7, q0f7, -⟩ := DataW.trod_bool Tryd.underlying4 t0f7
  obtain rfl : c0f7 = _ := by simpa using q0f7
  obtain ⟨n0f8, c0f8, y0f8, e0f8, t0f8⟩ := lf0 8 26 (by decide)
  obtain ⟨a0f8, len0f8, cap0f8, rfl, k0f8⟩ := leaf_slice Tryd.underlying26 t0f8
  obtain ⟨z0f8, w0f8⟩ := open_ints_seq Tryd.underlying26 Tryd.underlying3 (by kernel_rfl) k0f8
  obtain ⟨n0f9, c0f9, y0f9, e0f9, t0f9⟩ := lf0 9 3 (by decide)
  obtain ⟨a0f9, q0f9, -, w0f9⟩ := DataW.trod_int Tryd.underlying3 t0f9
  obtain rfl : c0f9 = _ := by simpa using q0f9
  obtain ⟨n0f10, c0f10, y0f10, e0f10, t0f10⟩ := lf0 10 3 (by decide)
  obtain ⟨a0f10, q0f10, -, w0f10⟩ := DataW.trod_int Tryd.underlying3 t0f10
  obtain rfl : c0f10 = _ := by simpa using q0f10
  obtain ⟨n0f11, c0f11, y0f11, e0f11, t0f11⟩ := lf0 11 3 (by decide)
  obtain ⟨a0f11, q0f11, -, w0f11⟩ := DataW.trod_int Tryd.underlying3 t0f11
  obtain rfl : c0f11 = _ := by simpa using q0f11
  obtain ⟨n0f12, c0f12, y0f12, e0f12, t0f12⟩ := lf0 12 3 (by decide)
  obtain ⟨a0f12, q0f12, -, w0f12⟩ := DataW.trod_int Tryd.underlying3 t0f12
  obtain rfl : c0f12 = _ := by simpa using q0f12
  obtain ⟨n0f13, c0f13, y0f13, e0f13, t0f13⟩ := lf0 13 3 (by decide)
  obtain ⟨a0f13, q0f13, -, w0f13⟩ := DataW.trod_int Tryd.underlying3 t0f13
  obtain rfl : c0f13 = _ := by simpa using q0f13
  obtain rfl : l0 = [.int .i64 a0f0, .int .i64 a0f1, .int .i64 a0f2, .int .i64 a0f3, .int .i64 a0f4, .int .i64 a0f5, .int .i64 a0f6, .bool a0f7, .slice a0f8 len0f8 cap0f8, .int .i64 a0f9, .int .i64 a0f10, .int .i64 a0f11, .int .i64 a0f12, .int .i64 a0f13] := list_of (ll0.trans (by kernel_rfl)) (fun j hj => match j, hj with | 0, _ => e0f0 | 1, _ => e0f1 | 2, _ => e0f2 | 3, _ => e0f3 | 4, _ => e0f4 | 5, _ => e0f5 | 6, _ => e0f6 | 7, _ => e0f7 | 8, _ => e0f8 | 9, _ => e0f9 | 10, _ => e0f10 | 11, _ => e0f11 | 12, _ => e0f12 | 13, _ => e0f13 | j + 14, hj => absurd hj (by simp))
  clear hA0 hval0
  refine (walk_FnExactStepText a0f0 w0f0 a0f1 w0f1 a0f2 w0f2 a0f3 w0f3 a0f4 w0f4 a0f5 w0f5 a0f6 w0f6 a0f7 a0f8 len0f8 cap0f8 z0f8 a0f9 w0f9 a0f10 w0f10 a0f11 w0f11 a0f12 w0f12 a0f13 w0f13 W w0f8 (need_FnExactStepText hL hSh)).mono fun e W' ⟨he, bel⟩ => ?_
  subst he
  exact ⟨_, rfl, _, _, _, [], _, [], hW', trodAll_mk1 (shut_bool Tryd.underlying4 _), (trodAll_cons_mk (Below.trod laidOut (by kernel_rfl) (of_decide_eq_true (by kernel_rfl)) k0 bel lt0) trodAll_mk0), rfl, bel.frame _, fun h => by cases h⟩
theorem over : Rows.fnExactStepTextRow.holds Tryd.pinned (OpenSpec.ofChange Rows.fnExactStepTextSpec) :=
  OpenClaim.holds_of_wide 8 Tryd.f8 rfl rfl rfl rfl rfl rfl rfl ⟨rfl, rfl, rfl, rfl, rfl⟩ rfl rfl rfl rfl rfl (by kernel_rfl) Tryd.func8 (by kernel_rfl)
    (of_decide_eq_true (by kernel_rfl)) (by unfold Func.isWrapper; first | (rw [if_pos (by decide +kernel)]; kernel_rfl) | (rw [if_neg (by decide +kernel)]; exact ⟨rfl, rfl⟩))
    (fun os started H enc _ => lifted os started H enc)
/-- the given statement: the tied card -/
theorem proved : Rows.FnExactStepTextCardSaid :=
  Claim7.holds_tied_plain_at .later [] [.data, .data, .data, .data, .pinned] true (true, "c0660de62a4924f88268a887d5431fa6c06a2cce32fff2e12f79e941ba4eb046") true
    over (fun _ h => by cases h) (by kernel_rfl) (fun _ h => by cases h) fnExactStepText_row_tie rfl ⟨rfl, rfl⟩ (by kernel_rfl) rfl
    (fun f fn hf hfn => by
      obtain rfl : f = 8 := Option.some.inj ((show Tryd.prog.funcNamed "loop.example/g00400/laws.FnExactStepText" = some 8 by kernel_rfl).symm.trans hf) |>.symm
      obtain rfl : fn = Tryd.f8 := (Option.some.inj (Tryd.func8.symm.trans hfn)).symm
      exact ⟨by kernel_rfl, fun j t ht => by
        rw [Tryd.params8] at ht
        have hm : t ∈ [60] := by simpa using Array.mem_of_getElem? ht
        have hall : ([60].all fun u => !Tryd.prog.wantsStandIn u) = true := by kernel_rfl
        exact (show Tryd.prog.wantsStandIn t = false by simpa using List.all_eq_true.1 hall t hm)⟩)
    (by kernel_rfl)
#print axioms proved
end Go.Proofs.YtegnlijgjcfmlaaDoor.fnExactStepText
