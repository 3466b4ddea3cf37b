/- The best route, walked: the reference as a whole; copies of integers. -/
import Derived.Test.YtegnlijgjcfmlaaDoorWBest
namespace Go.Proofs.YtegnlijgjcfmlaaDoor
open Go.RowKit
set_option linter.unusedVariables false
set_option linter.unusedSimpArgs false

def IntSlB (L : List Int) (w : World) (e : Ending) (w' : World) : Prop := ∃ a len c, e = .returned (.tuple #[.slice a len c, .bool (!L.isEmpty)]) ∧ IS w' w'.heap.size a len L ∧ Below w.heap.size w w' ∧ (∀ p, a = some p → w.heap.size ≤ p.block)

set_option maxHeartbeats 1600000 in
theorem routeBest_spec (a : Option Addr) (len cap : Nat) (fr dst n hops : Int) (l : List Rd) (w : World) (S0 : RdS w w.heap.size a len l) :
    Calls Tryd.prog 11 #[.slice a len cap, .int .i64 fr, .int .i64 dst, .int .i64 n, .int .i64 hops] w (IntSlB (bestR l fr dst n hops) w) := by
  rcases Bool.eq_false_or_eq_true (roadsOk l) with h | h
  · rcases Bool.eq_false_or_eq_true (inB hops 1 4) with h2 | h2
    · have hb := inB_t h2
      obtain ⟨k, rfl⟩ : ∃ k : Nat, hops = (k : Int) + 1 := ⟨(hops - 1).toNat, by omega⟩
      have Hr : Hid (bestR l fr dst n ((k : Int) + 1) = tryR l n dst (k + 1) [] [] [fr] fr) := by unfold Hid; rw [bestR_t h h2, show ((k : Int) + 1).toNat = k + 1 by omega]
      have H := Lib.hid h
      have hk4 : k ≤ 3 := by omega
      clear h h2
      go_enter Tryd.func11, Tryd.ntmps11
      go_wp2_with fail
      refine (roadsOk_spec _ _ _ l _ S0).mono ?_
      rintro e w1 ⟨he, b1⟩
      rw [H.out] at he
      subst he
      have n0 : IS w1 w1.heap.size none 0 [] := ⟨rfl, by simp [maxLen], by simp, fun i x hx => by simp at hx⟩
      go_wp2_with fail
      refine (l14Try_spec w.heap.size l n dst H k [] [] [fr] fr _ _ _ _ _ _ _ _ _ _ (FS.keep S0 b1) n0 n0 (fun _ => rfl) (fun _ => rfl) (.inl ⟨rfl, rfl⟩) (by simp; omega) b1.size (fun p hp => by cases hp)).mono ?_
      rintro e w2 ⟨a2, l2, c2, rfl, i2, -, b2, e2⟩
      have Hl := Lib.hid i2.1
      have hl2 := i2.len
      by_cases hE : tryR l n dst (k + 1) [] [] [fr] fr = []
      · have t1 : ((l2 : Int) == 0) = true := by have := Hl.out; rw [hE] at this; simp at this; simp; omega
        have HE := Lib.hid hE
        clear hE
        go_wp2
        go_ret2
        exact ⟨none, 0, 0, by rw [Hr.out, HE.out]; rfl, by rw [Hr.out, HE.out]; exact ⟨rfl, by simp [maxLen], by simp, fun i x hx => by simp at hx⟩, b1.trans (b2.mono b1.size), fun p hp => by cases hp⟩
      · have t1 : ((l2 : Int) == 0) = false := by
          have h5 : l2 ≠ 0 := by intro h; have := Hl.out; rw [h] at this; exact hE (List.eq_nil_of_length_eq_zero this)
          simp; omega
        have HE : Hid ((!(tryR l n dst (k + 1) [] [] [fr] fr).isEmpty) = true) := by
          unfold Hid
          cases hh : tryR l n dst (k + 1) [] [] [fr] fr with
          | nil => exact absurd hh hE
          | cons x t => rfl
        clear hE
        go_wp2
        go_ret2
        exact ⟨a2, l2, c2, by rw [Hr.out, HE.out]; rfl, by rw [Hr.out]; exact i2, b1.trans (b2.mono b1.size), e2⟩
    · have hb := inB_f h2
      have Hr := Lib.hid (bestR_f2 (l := l) (from_ := fr) (dst := dst) (n := n) h2)
      clear h2
      by_cases h3 : hops < 1
      all_goals
        go_enter Tryd.func11, Tryd.ntmps11
        go_wp2_with fail
        refine (roadsOk_spec _ _ _ l _ S0).mono ?_
        rintro e w1 ⟨he, b1⟩
        rw [h] at he
        subst he
        go_wp2
        go_ret2
        exact ⟨none, 0, 0, by rw [Hr.out]; rfl, by rw [Hr.out]; exact ⟨rfl, by simp [maxLen], by simp, fun i x hx => by simp at hx⟩, b1, fun p hp => by cases hp⟩
  · have Hr := Lib.hid (bestR_f1 (from_ := fr) (dst := dst) (n := n) (hops := hops) h)
    go_enter Tryd.func11, Tryd.ntmps11
    go_wp2_with fail
    refine (roadsOk_spec _ _ _ l _ S0).mono ?_
    rintro e w1 ⟨he, b1⟩
    rw [h] at he
    subst he
    go_wp2
    go_ret2
    exact ⟨none, 0, 0, by rw [Hr.out]; rfl, by rw [Hr.out]; exact ⟨rfl, by simp [maxLen], by simp, fun i x hx => by simp at hx⟩, b1, fun p hp => by cases hp⟩

set_option maxHeartbeats 800000 in
theorem copyInts_impl (a : Option Addr) (len cap : Nat) (xs : List Int) (w : World) (S0 : IS w w.heap.size a len xs) (hn : a = none → cap = 0) (hlen : len ≤ 1048576) :
    Calls Tryd.prog 79 #[.slice a len cap] w fun e w' => (∃ a c, e = .returned (.slice a len c) ∧ OI w' w.heap.size a len c xs) ∧ Below w.heap.size w w' := by
  have Hl := Lib.hid S0.1
  have Hn := Lib.hid hn
  clear hn
  go_enter Tryd.func79, Tryd.ntmps79
  go_wp2_with (at_builtin; refine wpList_append_ints rfl _ _ rfl w.heap.size (.slice none 0 0) [] rfl (OwnI.nil _ _) a len cap xs rfl S0 Hn.out (by simp) (by omega) (Nat.le_refl _) ?_)
  intro v1 w1 hown hb _
  go_wp2
  go_ret
  obtain ⟨a1, c1, hv, o1⟩ := OwnI.oi hown (by intro z hz; exact S0.2.2.1 z (by simpa using hz))
  subst hv
  simp only [List.nil_append, Hl.out] at o1
  exact ⟨⟨a1, c1, by simp [Hl.out], o1⟩, hb⟩

end Go.Proofs.YtegnlijgjcfmlaaDoor
