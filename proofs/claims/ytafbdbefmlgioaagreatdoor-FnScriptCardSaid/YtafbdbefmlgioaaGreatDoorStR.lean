/- The text of a step that turns the prices. -/
import Derived.Test.YtafbdbefmlgioaaGreatDoorStT
import Derived.Deep.RegionHeld3
namespace Go.Proofs.YtafbdbefmlgioaaGreatDoor
open Go.RowKit
set_option linter.unusedVariables false
set_option linter.unusedSimpArgs false

set_option maxRecDepth 100000 in
set_option maxHeartbeats 3200000 in
theorem st5_impl (k key ch too amt fee : Int) (yes : Bool) (a : Option Addr) (len cap : Nat) (xs : List Int) (lo hi st mn mx : Int) (w : World) (S0 : IS w w.heap.size a len xs) (T0 : PM w) : Calls Tryz.prog 17 #[.agg #[.int .i64 5, .int .i64 k, .int .i64 key, .int .i64 ch, .int .i64 too, .int .i64 amt, .int .i64 fee, .bool yes, .slice a len cap, .int .i64 lo, .int .i64 hi, .int .i64 st, .int .i64 mn, .int .i64 mx]] w fun e w' => e = .returned (.string (S (stText 5 k key ch too amt fee yes xs lo hi st mn mx))) ∧ Below w.heap.size w w' := by
  have hl := S0.1
  cases hok : ruleOk lo hi st mn mx with
  | false =>
    have hr : Hid (stText 5 k key ch too amt fee yes xs lo hi st mn mx = []) := by unfold Hid stText; rw [hok]; simp
    go_enter Tryz.func17, Tryz.ntmps17
    go_wp2_with (first | (go_at_call 48; refine (ruleOk_impl _ _ _ _ _ _).mono ?_; rintro e w1 ⟨he, b1⟩; rw [hok] at he; subst he; obtain ⟨hc1, hf1, hs1, hz1⟩ := brules b1))
    all_goals
      go_ret
      exact ⟨by rw [hr.out]; rfl, by (repeat (first | (with_reducible exact Below.refl _ _) | (with_reducible assumption) | (with_reducible refine Below.setCell ?_ ?side _; case side => first | (with_reducible exact Nat.le_refl _) | (simp; done) | (simp only [World.size_alloc, World.size_setCell, World.size_drew, World.heap_drewN] at *; omega)) | (with_reducible refine below_alloc ?_ _) | (with_reducible refine Below.drew ?_) | (with_reducible refine below_drewN ?_) | (with_reducible refine below_via (by assumption) ?_)))⟩
  | true =>
    have hin : Hid (∀ x ∈ [lo, hi, st, mn, mx], 0 ≤ x ∧ x ≤ 1125899906842624) := by
      intro x hx
      have h := of_decide_eq_true hok
      simp at hx
      rcases hx with rfl | rfl | rfl | rfl | rfl <;> omega
    have Hok := Lib.hid hok
    clear hok
    go_enter Tryz.func17, Tryz.ntmps17
    go_wp2_with (first | (go_at_call 48; refine (ruleOk_impl _ _ _ _ _ _).mono ?_; rintro e w1 ⟨he, b1⟩; rw [Hok.out] at he; subst he; obtain ⟨hc1, hf1, hs1, hz1⟩ := brules b1) | (go_at_call 29; refine (withNumbers_impl ⟨#[116, 117, 114, 110]⟩ _ 5 5 [lo, hi, st, mn, mx] _ (IS.lit _ [lo, hi, st, mn, mx] _ _ rfl (fun x hx => by have := hin.out x hx; omega) (by simp) 5 rfl _ (by first | rfl | (simp; done))) (T0.pow.keep (by (repeat (first | (with_reducible exact Below.refl _ _) | (with_reducible assumption) | (with_reducible refine Below.setCell ?_ ?side _; case side => first | (with_reducible exact Nat.le_refl _) | (simp; done) | (simp only [World.size_alloc, World.size_setCell, World.size_drew, World.heap_drewN] at *; omega)) | (with_reducible refine below_alloc ?_ _) | (with_reducible refine Below.drew ?_) | (with_reducible refine below_drewN ?_) | (with_reducible refine below_via (by assumption) ?_))))) hin.out (by omega) (by decide)).mono ?_; rintro e w3 ⟨rfl, b3⟩))
    all_goals
      go_ret
      refine ⟨?_, by (repeat (first | (with_reducible exact Below.refl _ _) | (with_reducible assumption) | (with_reducible refine Below.setCell ?_ ?side _; case side => first | (with_reducible exact Nat.le_refl _) | (simp; done) | (simp only [World.size_alloc, World.size_setCell, World.size_drew, World.heap_drewN] at *; omega)) | (with_reducible refine below_alloc ?_ _) | (with_reducible refine Below.drew ?_) | (with_reducible refine below_drewN ?_) | (with_reducible refine below_via (by assumption) ?_)))⟩
      first
        | exact str_eq (l := []) (by simp_all [stText, evZ, ruleZ] <;> omega)
        | (refine str_eq (l := turnB ++ tailT [lo, hi, st, mn, mx]) ?_; have h1 := Hok.out; simp_all [stText, evZ, ruleZ]; try omega)

def RBox (b : Nat) (lo hi st mn mx : Int) (w : World) : Prop :=
  w.cell? ⟨b, 9, none⟩ = some (.int .i64 lo) ∧ w.cell? ⟨b, 10, none⟩ = some (.int .i64 hi) ∧ w.cell? ⟨b, 11, none⟩ = some (.int .i64 st) ∧ w.cell? ⟨b, 12, none⟩ = some (.int .i64 mn) ∧ w.cell? ⟨b, 13, none⟩ = some (.int .i64 mx)
theorem RBox.keep {w w' : World} {b : Nat} {lo hi st mn mx : Int} (h : RBox b lo hi st mn mx w) (c : Below w.heap.size w w') : RBox b lo hi st mn mx w' := by
  obtain ⟨h0, h1, h2, h3, h4⟩ := h
  exact ⟨cell_keep c h0, cell_keep c h1, cell_keep c h2, cell_keep c h3, cell_keep c h4⟩

set_option maxRecDepth 100000 in
set_option maxHeartbeats 3200000 in
theorem st5_spec (k key ch too amt fee : Int) (yes : Bool) (a : Option Addr) (len cap : Nat) (xs : List Int) (lo hi st mn mx : Int) (w : World) (S0 : IS w w.heap.size a len xs) : Calls Tryz.prog 78 #[.agg #[.int .i64 5, .int .i64 k, .int .i64 key, .int .i64 ch, .int .i64 too, .int .i64 amt, .int .i64 fee, .bool yes, .slice a len cap, .int .i64 lo, .int .i64 hi, .int .i64 st, .int .i64 mn, .int .i64 mx]] w fun e w' => e = .returned (.string (S (stText 5 k key ch too amt fee yes xs lo hi st mn mx))) ∧ Below w.heap.size w w' := by
  have hl := S0.1
  cases hok : ruleOk lo hi st mn mx with
  | false =>
    have hr : Hid (stText 5 k key ch too amt fee yes xs lo hi st mn mx = []) := by unfold Hid stText; rw [hok]; simp
    go_enter Tryz.func78, Tryz.ntmps78
    go_wp2_with (first | (go_at_call 115; refine (noRule_spec _ _ _ _ _ _).mono ?_; rintro e w1 ⟨rfl, b0⟩; obtain ⟨hc0, hf0, hs0, hz0⟩ := brules b0) | (go_at_call 118; refine (ruleOk_spec _ _ _ _ _ _).mono ?_; rintro e w1 ⟨he, b1⟩; rw [hok] at he; subst he; obtain ⟨hc1, hf1, hs1, hz1⟩ := brules b1))
    all_goals
      go_ret
      exact ⟨by rw [hr.out]; rfl, by (repeat (first | (with_reducible exact Below.refl _ _) | (with_reducible assumption) | (with_reducible refine Below.setCell ?_ ?side _; case side => first | (with_reducible exact Nat.le_refl _) | (simp; done) | (simp only [World.size_alloc, World.size_setCell, World.size_drew, World.heap_drewN] at *; omega)) | (with_reducible refine below_alloc ?_ _) | (with_reducible refine Below.drew ?_) | (with_reducible refine below_drewN ?_) | (with_reducible refine below_via (by assumption) ?_)))⟩
  | true =>
    have hin : Hid (∀ x ∈ [lo, hi, st, mn, mx], 0 ≤ x ∧ x ≤ 1125899906842624) := by
      intro x hx
      have h := of_decide_eq_true hok
      simp at hx
      rcases hx with rfl | rfl | rfl | rfl | rfl <;> omega
    obtain ⟨n0, rfl⟩ : ∃ n : Nat, lo = (n : Int) := ⟨lo.toNat, by have := hin.out lo (by simp); omega⟩
    have hu0 : n0 ≤ 1125899906842624 := by have := hin.out (n0 : Int) (by simp); omega
    obtain ⟨D0, HD0⟩ : ∃ D, Hid (S (Lib.decDigits n0) = D) := ⟨_, rfl⟩
    have hd0 : D0.size ≤ 20 := by rw [← HD0.out]; have := (dec_len n0 hu0).2; simpa [S, ByteArray.size] using this
    obtain ⟨n1, rfl⟩ : ∃ n : Nat, hi = (n : Int) := ⟨hi.toNat, by have := hin.out hi (by simp); omega⟩
    have hu1 : n1 ≤ 1125899906842624 := by have := hin.out (n1 : Int) (by simp); omega
    obtain ⟨D1, HD1⟩ : ∃ D, Hid (S (Lib.decDigits n1) = D) := ⟨_, rfl⟩
    have hd1 : D1.size ≤ 20 := by rw [← HD1.out]; have := (dec_len n1 hu1).2; simpa [S, ByteArray.size] using this
    obtain ⟨n2, rfl⟩ : ∃ n : Nat, st = (n : Int) := ⟨st.toNat, by have := hin.out st (by simp); omega⟩
    have hu2 : n2 ≤ 1125899906842624 := by have := hin.out (n2 : Int) (by simp); omega
    obtain ⟨D2, HD2⟩ : ∃ D, Hid (S (Lib.decDigits n2) = D) := ⟨_, rfl⟩
    have hd2 : D2.size ≤ 20 := by rw [← HD2.out]; have := (dec_len n2 hu2).2; simpa [S, ByteArray.size] using this
    obtain ⟨n3, rfl⟩ : ∃ n : Nat, mn = (n : Int) := ⟨mn.toNat, by have := hin.out mn (by simp); omega⟩
    have hu3 : n3 ≤ 1125899906842624 := by have := hin.out (n3 : Int) (by simp); omega
    obtain ⟨D3, HD3⟩ : ∃ D, Hid (S (Lib.decDigits n3) = D) := ⟨_, rfl⟩
    have hd3 : D3.size ≤ 20 := by rw [← HD3.out]; have := (dec_len n3 hu3).2; simpa [S, ByteArray.size] using this
    obtain ⟨n4, rfl⟩ : ∃ n : Nat, mx = (n : Int) := ⟨mx.toNat, by have := hin.out mx (by simp); omega⟩
    have hu4 : n4 ≤ 1125899906842624 := by have := hin.out (n4 : Int) (by simp); omega
    obtain ⟨D4, HD4⟩ : ∃ D, Hid (S (Lib.decDigits n4) = D) := ⟨_, rfl⟩
    have hd4 : D4.size ≤ 20 := by rw [← HD4.out]; have := (dec_len n4 hu4).2; simpa [S, ByteArray.size] using this
    have Hok := Lib.hid hok
    clear hok
    have hz0 : ¬ (9223372036854775807 < 5 + D0.size) := by omega
    have hz1 : ¬ (9223372036854775807 < 5 + D0.size + 1) := by omega
    have hz2 : ¬ (9223372036854775807 < 5 + D0.size + 1 + D1.size) := by omega
    have hz3 : ¬ (9223372036854775807 < 5 + D0.size + 1 + D1.size + 1) := by omega
    have hz4 : ¬ (9223372036854775807 < 5 + D0.size + 1 + D1.size + 1 + D2.size) := by omega
    have hz5 : ¬ (9223372036854775807 < 5 + D0.size + 1 + D1.size + 1 + D2.size + 1) := by omega
    have hz6 : ¬ (9223372036854775807 < 5 + D0.size + 1 + D1.size + 1 + D2.size + 1 + D3.size) := by omega
    have hz7 : ¬ (9223372036854775807 < 5 + D0.size + 1 + D1.size + 1 + D2.size + 1 + D3.size + 1) := by omega
    have hz8 : ¬ (9223372036854775807 < 5 + D0.size + 1 + D1.size + 1 + D2.size + 1 + D3.size + 1 + D4.size) := by omega
    have hfin : Hid (((((((((((⟨#[116, 117, 114, 110, 32]⟩ : ByteArray) ++ D0) ++ ⟨#[32]⟩) ++ D1) ++ ⟨#[32]⟩) ++ D2) ++ ⟨#[32]⟩) ++ D3) ++ ⟨#[32]⟩) ++ D4) = S (turnB ++ tailT [(n0 : Int), n1, n2, n3, n4])) := by
      unfold Hid
      rw [← HD0.out, ← HD1.out, ← HD2.out, ← HD3.out, ← HD4.out, show (⟨#[32]⟩ : ByteArray) = S [32] from rfl, show (⟨#[116, 117, 114, 110, 32]⟩ : ByteArray) = S [116, 117, 114, 110, 32] from rfl]
      simp only [S_append]
      exact congrArg S (by simp [turnB, tailT, Lib.joinTail, digs])
    go_enter Tryz.func78, Tryz.ntmps78
    go_wp2_with (first | (go_at_call 115; refine (noRule_spec _ _ _ _ _ _).mono ?_; rintro e w1 ⟨rfl, b0⟩; obtain ⟨hc0, hf0, hs0, hz0⟩ := brules b0) | (go_at_call 118; refine (ruleOk_spec _ _ _ _ _ _).mono ?_; rintro e w1 ⟨he, b1⟩; rw [Hok.out] at he; subst he; obtain ⟨hc1, hf1, hs1, hz1⟩ := brules b1))
    all_goals (try (go_ret; exact ⟨str_eq (l := []) (by simp_all [stText, evZ, ruleZ] <;> omega), by (repeat (first | (with_reducible exact Below.refl _ _) | (with_reducible assumption) | (with_reducible refine Below.setCell ?_ ?side _; case side => first | (with_reducible exact Nat.le_refl _) | (simp; done) | (simp only [World.size_alloc, World.size_setCell, World.size_drew, World.heap_drewN] at *; omega)) | (with_reducible refine below_alloc ?_ _) | (with_reducible refine Below.drew ?_) | (with_reducible refine below_drewN ?_) | (with_reducible refine below_via (by assumption) ?_)))⟩))
    have hbx : Hid (∀ w', Below w1.heap.size w1 w' → RBox w.heap.size n0 n1 n2 n3 n4 w') := fun w' c => RBox.keep ⟨by rw [hc1 _ _ (by simp only [World.size_alloc]; omega)]; simp [go_sem], by rw [hc1 _ _ (by simp only [World.size_alloc]; omega)]; simp [go_sem], by rw [hc1 _ _ (by simp only [World.size_alloc]; omega)]; simp [go_sem], by rw [hc1 _ _ (by simp only [World.size_alloc]; omega)]; simp [go_sem], by rw [hc1 _ _ (by simp only [World.size_alloc]; omega)]; simp [go_sem]⟩ c
    have B1 := below_via b1 (by (repeat (first | (with_reducible exact Below.refl _ _) | (with_reducible assumption) | (with_reducible refine Below.setCell ?_ ?side _; case side => first | (with_reducible exact Nat.le_refl _) | (simp; done) | (simp only [World.size_alloc, World.size_setCell, World.size_drew, World.heap_drewN] at *; omega)) | (with_reducible refine below_alloc ?_ _) | (with_reducible refine Below.drew ?_) | (with_reducible refine below_drewN ?_) | (with_reducible refine below_via (by assumption) ?_))) : Below w.heap.size w _)
    have c4 : Below w1.heap.size w1 w1 := Below.refl _ _
    obtain ⟨f50, f51, f52, f53, f54⟩ := hbx.out _ c4
    clear hc1 hf1 hs1 hz1 b1
    go_region_held3 (fun w' => w'.cell? ⟨w.heap.size, 9, none⟩ = some (.int .i64 n0) ∧ w'.cell? ⟨w.heap.size, 10, none⟩ = some (.int .i64 n1) ∧ w'.cell? ⟨w.heap.size, 11, none⟩ = some (.int .i64 n2) ∧ w'.cell? ⟨w.heap.size, 12, none⟩ = some (.int .i64 n3) ∧ w'.cell? ⟨w.heap.size, 13, none⟩ = some (.int .i64 n4)) (go_keep) ((go_at_call 58; refine (numText_spec0 _ (by assumption) _).mono ?_; rintro e w5 ⟨he, b5⟩; (first | rw [HD0.out] at he | rw [HD1.out] at he | rw [HD2.out] at he | rw [HD3.out] at he | rw [HD4.out] at he); subst he; replace c4 : Below w1.heap.size w1 w5 := below_via b5 (by (repeat (first | (with_reducible exact Below.refl _ _) | (with_reducible assumption) | (with_reducible refine Below.setCell ?_ ?side _; case side => first | (with_reducible exact Nat.le_refl _) | (simp; done) | (simp only [World.size_alloc, World.size_setCell, World.size_drew, World.heap_drewN] at *; omega)) | (with_reducible refine below_alloc ?_ _) | (with_reducible refine Below.drew ?_) | (with_reducible refine below_drewN ?_) | (with_reducible refine below_via (by assumption) ?_)))); obtain ⟨f50, f51, f52, f53, f54⟩ := hbx.out _ c4))
    all_goals
      have BZ := below_via c4 B1
      go_wp2
      go_ret
      refine ⟨?_, by (repeat (first | (with_reducible exact Below.refl _ _) | (with_reducible assumption) | (with_reducible refine Below.setCell ?_ ?side _; case side => first | (with_reducible exact Nat.le_refl _) | (simp; done) | (simp only [World.size_alloc, World.size_setCell, World.size_drew, World.heap_drewN] at *; omega)) | (with_reducible refine below_alloc ?_ _) | (with_reducible refine Below.drew ?_) | (with_reducible refine below_drewN ?_) | (with_reducible refine below_via (by assumption) ?_)))⟩
      refine Eq.trans ?_ (str_eq (l := turnB ++ tailT [(n0 : Int), n1, n2, n3, n4]) ?_)
      · rw [← hfin.out]; rfl
      · have h1 := Hok.out; simp_all [stText, evZ, ruleZ]; try omega

end Go.Proofs.YtafbdbefmlgioaaGreatDoor
