/- FnExactBillText: for every input, in every world in which the listed variables hold what the program lays there, the law returns true and each argument reads afterwards as it read before; and the tied card. The frame by a program of the prover. -/
import Derived.Test.YtegnlijgjcfmlaaDoorBTextL
import Derived.Test.YtegnlijgjcfmlaaDoorOpen
import Derived.Test.YtegnlijgjcfmlaaDoorCards
import Derived.Test.YtegnlijgjcfmlaaDoorTie
import Derived.Lay
import Derived.MakeChecks
import Derived.ChangeSame
import Derived.ChangeVars
import Derived.JoinedOf
import Derived.RowKitTokens
import Derived.LaidLaws
import Derived.LaidSub
import Derived.LaidMore
import Derived.LaidHandle
import Derived.Stop.Joined
import Derived.SevenTiedAt
namespace Go.Proofs.YtegnlijgjcfmlaaDoor.fnExactBillText
open Go.ChangeShapes Go.WideShapes Go.ChangeAt Go.RowKit
open Go.ChangeMaps (open_string shut_string)
set_option linter.unusedVariables false
theorem own : ownKnob Tryd.prog.godebug = none := by kernel_rfl
theorem laidOut : laidOutB Tryd.prog = true := by kernel_rfl
abbrev listed : List (String × DataW Unit) := Rows.fnExactBillTextRow.laid
set_option maxRecDepth 100000 in
theorem need_FnExactBillText {W : World} (h : laidMetH Tryd.prog listed W) : Pow W := by
  rw [MakeChecks.laidMetH_plain _ _ _ (by kernel_rfl)] at h
  have h2 := laidMet.filter (fun x => x.1 == "internal/strconv.uint64pow10") h
  have e : listed.filter (fun x => x.1 == "internal/strconv.uint64pow10") = [("internal/strconv.uint64pow10", Lib.tabData .u64 Lib.pow10Tab)] := by rfl
  rw [e] at h2
  exact Lib.tabIs_of_head (g := 1) (t := 162) (e := 146) (n := 20) (by kernel_rfl) (by kernel_rfl) Tryd.underlying162 Tryd.underlying146 (by kernel_rfl) (by kernel_rfl) h2
set_option maxRecDepth 100000 in
theorem start_met (os : Os) (args : Array Value) : laidMetH Tryd.prog listed ((World.laidAll Tryd.prog os listed).forCall (fun _ _ => 0) ⟨#[], args, []⟩).memory := by
  rw [MakeChecks.laidMetH_plain _ _ _ (by kernel_rfl)]
  exact laidMet_laidAll _ (by kernel_rfl) (by kernel_rfl)
set_option maxRecDepth 100000 in
theorem lifted (os : Os) (started : os.Started) (H : Type) (enc : TypeId × Value → H) :
    ReturnsInHanded {} Tryd.checked os 5 .any (fun w args => (Rows.fnExactBillTextSpec.pre enc Tryd.prog Tryd.f5 [] false w args ∧ laidMetH Tryd.prog listed w) ∧ sizedMet enc Tryd.prog Tryd.f5 (OpenSpec.ofChange Rows.fnExactBillTextSpec) false w args)
      (Rows.fnExactBillTextSpec.post enc Tryd.prog Tryd.f5 false true false false) := by
  refine returnsInHanded_of_change_and (C := Tryd.checked) (X := fun w _ => laidMetH Tryd.prog listed w) (fun _ _ _ hh h => h.of_heap hh) own started (by kernel_rfl) Tryd.func5
    (ChangeSpec.witness_shaped (enc := enc) (C := Tryd.checked) (os := os) (X := fun w _ => laidMetH Tryd.prog listed w) false (World.laidAll Tryd.prog os listed) #[.agg #[.int .i64 0, .int .i64 0, .int .i64 0, .int .i64 0, .int .i64 0, .string ByteArray.empty]] 8 (World.laidAll_os _ _ _) (World.shaped_of_ZipB (by kernel_rfl) (by kernel_rfl)) (by kernel_rfl) (by kernel_rfl) (by kernel_rfl) (start_met os _)) ?_
  intro W base args ds gs before hval0 hW _ _ hL _
  have hval : ∀ (j : Nat) t v, Tryd.f5.params[j]? = some t → args[j]? = some v → Value.okWide Tryd.prog W .any base t v := hval0
  have hW' := hW
  obtain ⟨p, q, hA0, hV, rfl, hfz, hnd⟩ := hW
  have hA : DataW.TrodAll enc Tryd.prog W 0 (fun _ => true) true Tryd.f5.params.toList args.toList ds p := hA0
  rw [Tryd.params5] at hA hval
  obtain ⟨v0, vs0, d0, ds0, p0, q0, hargs, rfl, rfl, h0, r0⟩ := trodAll_cons hA
  obtain ⟨rfl, rfl, rfl⟩ := trodAll_nil r0
  obtain rfl : args = #[v0] := by cases args; simp_all
  obtain ⟨rfl, rfl⟩ := trodVars_none hV
  have k0 := h0
  have lt0 : ∀ x ∈ p0, x.block < W.heap.size := by obtain ⟨m, hm⟩ := k0; exact DataW.trod_lt m _ _ _ hm
  obtain ⟨l0, rfl, ll0, lf0⟩ := open_flat Tryd.underlying39 (by kernel_rfl) (by kernel_rfl) (hval 0 39 v0 rfl rfl) h0
  obtain ⟨n0f0, c0f0, y0f0, e0f0, t0f0⟩ := lf0 0 _ rfl
  obtain ⟨a0f0, q0f0, -, w0f0⟩ := DataW.trod_int Tryd.underlying3 t0f0
  obtain rfl : c0f0 = _ := by simpa using q0f0
  obtain ⟨n0f1, c0f1, y0f1, e0f1, t0f1⟩ := lf0 1 _ rfl
  obtain ⟨a0f1, q0f1, -, w0f1⟩ := DataW.trod_int Tryd.underlying3 t0f1
  obtain rfl : c0f1 = _ := by simpa using q0f1
  obtain ⟨n0f2, c0f2, y0f2, e0f2, t0f2⟩ := lf0 2 _ rfl
  obtain ⟨a0f2, q0f2, -, w0f2⟩ := DataW.trod_int Tryd.underlying3 t0f2
  obtain rfl : c0f2 = _ := by simpa using q0f2
  obtain ⟨n0f3, c0f3, y0f3, e0f3, t0f3⟩ := lf0 3 _ rfl
  obtain ⟨a0f3, q0f3, -, w0f3⟩ := DataW.trod_int Tryd.underlying3 t0f3
  obtain rfl : c0f3 = _ := by simpa using q0f3
  obtain ⟨n0f4, c0f4, y0f4, e0f4, t0f4⟩ := lf0 4 _ rfl
  obtain ⟨a0f4, q0f4, -, w0f4⟩ := DataW.trod_int Tryd.underlying3 t0f4
  obtain rfl : c0f4 = _ := by simpa using q0f4
  obtain ⟨n0f5, c0f5, y0f5, e0f5, t0f5⟩ := lf0 5 _ rfl
  obtain ⟨a0f5, q0f5, -, w0f5⟩ := DataW.trod_string Tryd.underlying9 t0f5
  obtain rfl : c0f5 = _ := by simpa using q0f5
  obtain rfl : l0 = [.int .i64 a0f0, .int .i64 a0f1, .int .i64 a0f2, .int .i64 a0f3, .int .i64 a0f4, .string a0f5] := list6 ll0 e0f0 e0f1 e0f2 e0f3 e0f4 e0f5
  clear hA0 hval0
  refine (walk_FnExactBillText a0f0 w0f0 a0f1 w0f1 a0f2 w0f2 a0f3 w0f3 a0f4 w0f4 a0f5 w0f5 W (need_FnExactBillText hL)).mono fun e W' ⟨he, bel⟩ => ?_
  subst he
  exact ⟨_, rfl, _, _, _, [], _, [], hW', trodAll_mk1 (shut_bool Tryd.underlying4 _), (trodAll_cons_mk (Below.trod laidOut (by kernel_rfl) (of_decide_eq_true (by kernel_rfl)) k0 bel lt0) trodAll_mk0), rfl, bel.frame _, fun h => by cases h⟩
theorem over : Rows.fnExactBillTextRow.holds Tryd.pinned (OpenSpec.ofChange Rows.fnExactBillTextSpec) :=
  OpenClaim.holds_of_wide 5 Tryd.f5 rfl rfl rfl rfl rfl rfl rfl ⟨rfl, rfl, rfl, rfl, rfl⟩ rfl rfl rfl rfl rfl (by kernel_rfl) Tryd.func5 (by kernel_rfl)
    (of_decide_eq_true (by kernel_rfl)) (by unfold Func.isWrapper; first | (rw [if_pos (by decide +kernel)]; kernel_rfl) | (rw [if_neg (by decide +kernel)]; exact ⟨rfl, rfl⟩))
    (fun os started H enc _ => lifted os started H enc)
/-- the given statement: the tied card -/
theorem proved : Rows.FnExactBillTextCardSaid :=
  Claim7.holds_tied_plain_at .later [] [.data, .data, .data] true (true, "c0660de62a4924f88268a887d5431fa6c06a2cce32fff2e12f79e941ba4eb046") true
    over (fun _ h => by cases h) (by kernel_rfl) (fun _ h => by cases h) fnExactBillText_row_tie rfl ⟨rfl, rfl⟩ (by kernel_rfl) rfl
    (fun f fn hf hfn => by
      obtain rfl : f = 5 := Option.some.inj ((show Tryd.prog.funcNamed "loop.example/g00400/laws.FnExactBillText" = some 5 by kernel_rfl).symm.trans hf) |>.symm
      obtain rfl : fn = Tryd.f5 := (Option.some.inj (Tryd.func5.symm.trans hfn)).symm
      exact ⟨by kernel_rfl, fun j t ht => by
        rw [Tryd.params5] at ht
        have hm : t ∈ [39] := by simpa using Array.mem_of_getElem? ht
        have hall : ([39].all fun u => !Tryd.prog.wantsStandIn u) = true := by kernel_rfl
        exact (show Tryd.prog.wantsStandIn t = false by simpa using List.all_eq_true.1 hall t hm)⟩)
    (by kernel_rfl)
#print axioms proved
end Go.Proofs.YtegnlijgjcfmlaaDoor.fnExactBillText
