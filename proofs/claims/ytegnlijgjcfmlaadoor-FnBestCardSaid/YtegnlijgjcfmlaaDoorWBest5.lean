/- The best route, walked: the program as a whole. -/
import Derived.Test.YtegnlijgjcfmlaaDoorWBest4
namespace Go.Proofs.YtegnlijgjcfmlaaDoor
open Go.RowKit
set_option linter.unusedVariables false
set_option linter.unusedSimpArgs false

theorem Fin.new (l : List Rd) (n dst hops : Int) (a : Option Addr) (len cap B0 : Nat) (w : World) (hB : B0 ≤ w.heap.size) (t : TypeId) (o : Obj) : Fin l n dst hops a len cap B0 w.heap.size [] ((w.alloc (.cells #[.slice a len cap, .int .i64 dst, .int .i64 n, .int .i64 hops, .slice none 0 0, .int .i64 0, .bool false] t)).alloc o) := by
  refine ⟨by simp; omega, by simp [go_sem], by simp [go_sem], by simp [go_sem], by simp [go_sem], ⟨none, 0, by simp [go_sem], ⟨OwnI.nil _ _, rfl, by simp⟩, fun p hp => by cases hp⟩, by simp [go_sem, feeOf], by simp [go_sem], fun o => by simp [go_sem]⟩
theorem IS.one (w : World) (n : Int) (hn : -9223372036854775808 ≤ n ∧ n ≤ 9223372036854775807) (t : TypeId) (g : Nat) (hg : g = w.heap.size) : IS (w.alloc (.cells #[.int .i64 n] t)) (w.alloc (.cells #[.int .i64 n] t)).heap.size (some ⟨g, 0, none⟩) 1 [n] := by
  subst hg
  refine ⟨rfl, by simp [maxLen], by simpa using hn, fun i x hx => ?_⟩
  cases i with
  | zero =>
    simp at hx
    subst hx
    exact ⟨w.heap.size, 0, rfl, by simp, by simp [go_sem]⟩
  | succ i => simp at hx
theorem IS.is {w : World} {B : Nat} {a : Option Addr} {len : Nat} {xs : List Int} (h : IS w B a len xs) : IS w B a len xs := h

set_option maxRecDepth 100000 in
set_option maxHeartbeats 3200000 in
theorem routeBest_impl (a : Option Addr) (len cap : Nat) (fr dst n hops : Int) (l : List Rd) (w : World) (S0 : RdS w w.heap.size a len l) (hcap : len ≤ cap) (hfr : -9223372036854775808 ≤ fr ∧ fr ≤ 9223372036854775807) :
    Calls Tryd.prog 10 #[.slice a len cap, .int .i64 fr, .int .i64 dst, .int .i64 n, .int .i64 hops] w fun e w' => (∃ a c, e = .returned (.tuple #[.slice a (bestR l fr dst n hops).length c, .bool (!(bestR l fr dst n hops).isEmpty)]) ∧ OI w' w.heap.size a (bestR l fr dst n hops).length c (bestR l fr dst n hops)) ∧ Below w.heap.size w w' := by
  rcases Bool.eq_false_or_eq_true (roadsOk l) with h | h
  · rcases Bool.eq_false_or_eq_true (inB hops 1 4) with h2 | h2
    · have hb := inB_t h2
      obtain ⟨k, rfl⟩ : ∃ k : Nat, hops = (k : Int) + 1 := ⟨(hops - 1).toNat, by omega⟩
      have Hr : Hid (bestR l fr dst n ((k : Int) + 1) = tryR l n dst (k + 1) [] [] [fr] fr) := by unfold Hid; rw [bestR_t h h2, show ((k : Int) + 1).toNat = k + 1 by omega]
      have H := Lib.hid h
      have H2 := Lib.hid h2
      have hk4 : k ≤ 3 := by omega
      clear h h2
      go_enter Tryd.func10, Tryd.ntmps10
      go_wp2_with (first | (go_at_call 38; refine (roadsOk_impl _ _ _ l _ S0 hcap).mono ?_; rintro e w1 ⟨he, b1⟩; rw [H.out] at he; subst he) | (go_at_call 39; refine (in_impl _ _ _ _).mono ?_; rintro e w2 ⟨he, rfl⟩; rw [H2.out] at he; subst he))
      have hz1 := b1.size
      obtain ⟨W, hW⟩ : ∃ W, W = w1.alloc (.cells #[.slice a len cap, .int .i64 dst, .int .i64 n, .int .i64 ((k : Int) + 1), .slice none 0 0, .int .i64 0, .bool false] 78) := ⟨_, rfl⟩
      have bW : Below w1.heap.size w1 (W.alloc (.cells #[.int .i64 fr] 3)) := by rw [hW]; exact below_alloc (below_alloc (Below.refl _ _) _) _
      have F0 : Fin l n dst ((k + 1 : Nat) : Int) a len cap w.heap.size w1.heap.size [] (W.alloc (.cells #[.int .i64 fr] 3)) := by rw [hW]; exact Fin.new l n dst ((k : Int) + 1) a len cap w.heap.size w1 hz1 _ _
      have hWs : W.heap.size = w1.heap.size + 1 := by rw [hW]; simp
      rw [← hW]
      refine (search_impl l n dst (k + 1) a len cap w.heap.size w1.heap.size H hz1 (by omega) (k + 1) [] [] [fr] fr none 0 0 (some ⟨w1.heap.size + 1, 0, none⟩) 1 1 _ (FS.keepB (FS.keep S0 b1) bW (Nat.le_refl _)) F0 ⟨rfl, by simp [maxLen], by simp, fun i x hx => by simp at hx⟩ (IS.one W fr hfr _ _ hWs.symm) (fun _ => rfl) (fun h => by cases h) (fun p hp => by cases hp) (fun p hp => by cases hp; simp) (.inl ⟨rfl, rfl⟩) (by simp) (by simp)).mono ?_
      rintro e w3 ⟨rfl, F3, G3⟩
      have bF : Below w.heap.size w w3 := b1.trans ((bW.mono hz1).trans (grown_below_of G3 hz1 (by simp; omega)))
      obtain ⟨g0, d0, d1, d2, d3, ⟨ab, cb, d4, ob, hab⟩, d5, d6, fz⟩ := F3
      rw [← Hr.out] at d4 d6 ob
      clear F0 G3 bW hW hab
      go_wp2
      go_quiet (fail)
      go_wp2
      go_ret2
      exact ⟨⟨ab, cb, rfl, ob.drewN nq⟩, below_drewN bF⟩
    · have hb := inB_f h2
      have H2 := Lib.hid h2
      have Hr := Lib.hid (bestR_f2 (l := l) (from_ := fr) (dst := dst) (n := n) h2)
      clear h2
      go_enter Tryd.func10, Tryd.ntmps10
      go_wp2_with (first | (go_at_call 38; refine (roadsOk_impl _ _ _ l _ S0 hcap).mono ?_; rintro e w1 ⟨he, b1⟩; rw [h] at he; subst he) | (go_at_call 39; refine (in_impl _ _ _ _).mono ?_; rintro e w2 ⟨he, rfl⟩; rw [H2.out] at he; subst he))
      go_ret2
      exact ⟨⟨none, 0, by rw [Hr.out]; rfl, by rw [Hr.out]; exact ⟨OwnI.nil _ _, rfl, by simp⟩⟩, b1⟩
  · have Hr := Lib.hid (bestR_f1 (from_ := fr) (dst := dst) (n := n) (hops := hops) h)
    go_enter Tryd.func10, Tryd.ntmps10
    go_wp2_with (go_at_call 38; refine (roadsOk_impl _ _ _ l _ S0 hcap).mono ?_; rintro e w1 ⟨he, b1⟩; rw [h] at he; subst he)
    go_ret2
    exact ⟨⟨none, 0, by rw [Hr.out]; rfl, by rw [Hr.out]; exact ⟨OwnI.nil _ _, rfl, by simp⟩⟩, b1⟩
theorem routeBest_specL (a : Option Addr) (len cap : Nat) (fr dst n hops : Int) (l : List Rd) (w : World) (S0 : RdS w w.heap.size a len l) :
    Calls Tryd.prog 11 #[.slice a len cap, .int .i64 fr, .int .i64 dst, .int .i64 n, .int .i64 hops] w fun e w' => (∃ a c, e = .returned (.tuple #[.slice a (bestR l fr dst n hops).length c, .bool (!(bestR l fr dst n hops).isEmpty)]) ∧ IS w' w'.heap.size a (bestR l fr dst n hops).length (bestR l fr dst n hops)) ∧ Below w.heap.size w w' :=
  (routeBest_spec a len cap fr dst n hops l w S0).mono fun e w' ⟨a, len, c, h1, h2, h3, _⟩ => by
    have h4 := h2.1
    subst h4
    exact ⟨⟨a, c, h1, h2⟩, h3⟩

end Go.Proofs.YtegnlijgjcfmlaaDoor
