/- The text of a route: the program; the law walked. -/
import Derived.Test.YtegnlijgjcfmlaaDoorRText
import Derived.Test.YtegnlijgjcfmlaaDoorOwnA
namespace Go.Proofs.YtegnlijgjcfmlaaDoor
open Go.RowKit
set_option linter.unusedVariables false
set_option linter.unusedSimpArgs false

def encS (s : ByteArray) : List Value := [.string s]
theorem infoString : (Tryd.prog.info? 9).map (fun i => (i.zero, i.size, i.bytes)) = some (some (.string ⟨#[]⟩), 1, 16) := by kernel_rfl
abbrev OwnS := OwnF encS 1 9
theorem oneS (s : ByteArray) : ∀ u ∈ encS s, u.oneCell' = true := by intro u hu; simp [encS] at hu; subst hu; rfl
theorem lenS (s : ByteArray) : (encS s).length = 1 := rfl
def digS (x : Int) : ByteArray := S (digs x)
theorem digS_list (xs : List Int) : (xs.map digS).map (·.data.toList) = xs.map digs := by simp [digS, S]

set_option maxRecDepth 100000 in
set_option maxHeartbeats 3200000 in
theorem join_own (v : Value) (ss : List ByteArray) (sep : ByteArray) (B : Nat) (w : World) (hown : OwnS w B v ss) (hn : ss.length ≤ 140737488355328) (hlen : (Lib.join (ss.map (·.data.toList)) sep.data.toList).length ≤ 140737488355328) :
    Calls Tryd.prog 45 #[v, .string sep] w fun e w' => e = .returned (.string (S (Lib.join (ss.map (·.data.toList)) sep.data.toList))) ∧ Below w.heap.size w w' := by
  obtain ⟨a, c, rfl, ho⟩ := OwnF.of (ok := fun _ => True) hown (fun _ _ => trivial)
  have hcap := ho.capB
  cases hs : ss with
  | nil =>
    subst hs
    exact (Tryd.strings_Join_none a c sep w).mono fun e w' ⟨he, hw⟩ => ⟨he, hw ▸ Below.refl _ _⟩
  | cons x r =>
    have f := OF.fs lenS ho
    obtain ⟨bk, off, y, e, hb, _⟩ := FS.at_ f (k := 0) (by rw [hs]; simp)
    rw [← hs]
    subst e
    refine Tryd.strings_Join bk off c ss sep w (fun j x hx => ?_) hb hn hcap hlen
    obtain ⟨b', off', e', hlt, hc⟩ := f.2.2.2 j x hx
    injection e' with e'
    injection e' with e1 e2
    subst e1
    subst e2
    have := hc 0 _ rfl
    rw [Nat.mul_one, Nat.add_zero] at this
    exact this

set_option maxRecDepth 100000 in
set_option maxHeartbeats 3200000 in
theorem routeText_impl (a : Option Addr) (len cap : Nat) (xs : List Int) (w : World) (S0 : IS w w.heap.size a len xs) (hlen : len ≤ 1048576) : Calls Tryd.prog 13 #[.slice a len cap] w fun e w' => e = .returned (.string (S (rText xs))) ∧ Below w.heap.size w w' := by
  have hl := S0.len
  have Hxl := Lib.hid S0.1
  go_enter Tryd.func13, Tryd.ntmps13
  go_wp2
  go_loopw [3, 5, 8] (fun v _ i wr => ∃ k : Nat, k ≤ len ∧ i = .int .i64 k ∧ OwnS wr w.heap.size v ((xs.take k).map digS) ∧ Hid (rtIn (xs.take k) = true) ∧ Below w.heap.size w wr) (fun _ _ i _ => len - (intOf i).toNat)
  case atStart => exact ⟨0, Nat.zero_le _, rfl, OwnF.nil _ _, rfl, Below.refl _ _⟩
  case round =>
    obtain ⟨k, hk, rfl, hown, hin, hB⟩ := hrel
    have hkl : ((xs.take k).map digS).length ≤ 1099511627775 := by rw [List.length_map, List.length_take]; omega
    by_cases hlt : k < len
    · obtain ⟨b, off, x, rfl, hb, hc, hbd, hx, hxs⟩ := (S0.keep hB).at_ hlt
      rcases Bool.eq_false_or_eq_true (inB x 0 40) with hx1 | hx1
      · have hxb := inB_t hx1
        obtain ⟨u, rfl⟩ : ∃ u : Nat, x = (u : Int) := ⟨x.toNat, by omega⟩
        have hu : u < 100 := by omega
        have hin2 := Lib.hid (rtIn_snoc hin.out hx1)
        have hz := hB.size
        have hst : Hid ((xs.take (k + 1)).map digS = (xs.take k).map digS ++ [S (Lib.decDigits u)]) := by unfold Hid; rw [hxs.out, List.map_append]; rfl
        clear hbd
        go_wp2_with (first | (go_at_call 39; refine (in_impl _ _ _ _).mono ?_; rintro e w1 ⟨he, rfl⟩; rw [hx1] at he; subst he) | (go_at_call 44; refine (numText_small u _ hu).mono ?_; rintro e w1 ⟨rfl, rfl⟩) | (at_builtin; refine wpList_append_f infoString Tryd.underlying82 rfl (by decide) (by decide) lenS oneS rfl _ _ rfl w.heap.size _ _ rfl (hown.alloc _) _ (S (Lib.decDigits u)) rfl (new_cells _ _ _ rfl) hkl (Nat.le_trans hz (size_alloc_le _ _)) ?_))
        intro v' w4 hown4 hb4 _
        go_wp2
        go_roundw
        case rel => exact ⟨k + 1, by omega, by go_num, by rw [hst.out, List.map_take]; exact hown4, by unfold Hid; rw [hxs.out]; exact hin2.out, (below_alloc hB _).trans hb4⟩
        case measure => simp [intOf]; omega
      · have Hr := Lib.hid (rtIn_bad hx.out hx1)
        go_wp2_with (go_at_call 39; refine (in_impl _ _ _ _).mono ?_; rintro e w1 ⟨he, rfl⟩; rw [hx1] at he; subst he)
        go_ret
        exact ⟨by rw [Hr.out]; rfl, hB⟩
    · have hall := S0.all (k := k) (by omega)
      rw [hall] at hown hin hkl
      have hJ := rtJ_len xs hin.out
      have Hin := Lib.hid hin.out
      clear hall hin
      go_wp2_with (go_at_call 45; refine (join_own _ _ _ _ _ hown (by omega) (by rw [digS_list]; have := Hxl.out; show (rtJ xs).length ≤ _; omega)).mono ?_; rintro e w1 ⟨rfl, b1⟩)
      go_ret
      exact ⟨by unfold rText; rw [Hin.out, if_pos rfl]; unfold rtJ; rw [← digS_list, List.map_map]; rfl, below_via b1 hB⟩

set_option maxRecDepth 100000 in
set_option maxHeartbeats 3200000 in
theorem walk_FnExactRouteText (a : Option Addr) (len cap : Nat) (xs : List Int) (w : World) (S0 : IS w w.heap.size a len xs) : Calls Tryd.prog 4 #[.slice a len cap] w fun e w' => e = .returned (.bool true) ∧ Below w.heap.size w w' := by
  have hl := S0.len
  by_cases hlen : len ≤ 1048576
  · go_enter Tryd.func4, Tryd.ntmps4
    go_wp2_with fail
    refine (toIntS_any _ _ _ xs _ S0 hlen).mono ?_
    rintro e w1 ⟨⟨a1, c1, rfl, o1⟩, b1⟩
    have z1 := b1.size
    go_wp2_with fail
    refine (routeText_spec _ _ _ xs _ o1.is hlen).mono ?_
    rintro e w2 ⟨rfl, b2⟩
    have c12 := b1.trans (b2.mono z1)
    have z2 := c12.size
    go_wp2_with fail
    refine (toIntS_any _ _ _ xs _ (S0.keep c12) hlen).mono ?_
    rintro e w3 ⟨⟨a3, c3, rfl, o3⟩, b3⟩
    have c13 := c12.trans (b3.mono z2)
    have z3 := c13.size
    go_wp2_with fail
    refine (routeText_impl _ _ _ xs _ o3.is hlen).mono ?_
    rintro e w4 ⟨rfl, b4⟩
    have c14 := c13.trans (b4.mono z3)
    have z4 := c14.size
    go_wp2_with fail
    refine (toIntS_any _ _ _ xs _ (S0.keep c14) hlen).mono ?_
    rintro e w5 ⟨⟨a5, c5, rfl, o5⟩, b5⟩
    have c15 := c14.trans (b5.mono z4)
    have z5 := c15.size
    go_wp2_with fail
    refine (eqIntS_any _ _ _ _ _ _ _ _ _ (OI.is (o3.keep (b4.trans (b5.mono b4.size)))) o5.is).mono ?_
    rintro e w6 ⟨rfl, b6⟩
    go_wp2
    go_ret
    exact ⟨rfl, c15.trans (b6.mono z5)⟩
  · go_enter Tryd.func4, Tryd.ntmps4
    go_wp2
    go_ret
    exact ⟨rfl, Below.refl _ _⟩

end Go.Proofs.YtegnlijgjcfmlaaDoor
