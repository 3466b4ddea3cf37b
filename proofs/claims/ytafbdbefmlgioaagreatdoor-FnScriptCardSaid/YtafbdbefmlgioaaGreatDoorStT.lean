/- Rules: which are right. -/
import Derived.Test.YtafbdbefmlgioaaGreatDoorAdd
import Derived.Test.YtafbdbefmlgioaaGreatDoorEvP
import Derived.Test.YtafbdbefmlgioaaGreatDoorFlat
import Derived.Test.YtafbdbefmlgioaaGreatDoorHold
namespace Go.Proofs.YtafbdbefmlgioaaGreatDoor
open Go.RowKit
set_option linter.unusedVariables false
set_option linter.unusedSimpArgs false

def ruleOk (lo hi st mn mx : Int) : Bool := decide ((0 ≤ lo ∧ lo ≤ 100) ∧ (lo ≤ hi ∧ hi ≤ 100) ∧ (0 ≤ st ∧ st ≤ 1000000) ∧ (0 ≤ mn ∧ mn ≤ 1000000) ∧ (mn ≤ mx ∧ mx ≤ 1000000))
def ruleZ (lo hi st mn mx : Int) : Bool := decide (lo = 0 ∧ hi = 0 ∧ st = 0 ∧ mn = 0 ∧ mx = 0)

theorem isBand_impl (lo hi : Int) (w : World) : Calls Tryz.prog 86 #[.int .i64 lo, .int .i64 hi] w fun e w' => e = .returned (.bool (decide ((0 ≤ lo ∧ lo ≤ 100) ∧ (lo ≤ hi ∧ hi ≤ 100)))) ∧ w = w' := by
  go_enter Tryz.func86, Tryz.ntmps86
  go_wp2_with (((go_at_call 85; refine (in_impl _ _ _ _).mono ?_); rintro e w1 ⟨rfl, rfl⟩))
  all_goals
    go_ret
    exact ⟨ret_bool (by simp_all [inB] <;> omega), rfl⟩

theorem l09Band_spec (lo hi : Int) (w : World) : Calls Tryz.prog 146 #[.int .i64 lo, .int .i64 hi] w fun e w' => e = .returned (.bool (decide ((0 ≤ lo ∧ lo ≤ 100) ∧ (lo ≤ hi ∧ hi ≤ 100)))) ∧ w = w' := by
  go_enter Tryz.func146, Tryz.ntmps146
  go_wp2
  all_goals
    go_ret
    exact ⟨ret_bool (by simp_all <;> omega), rfl⟩

theorem l10Part_spec (n : Int) (w : World) : Calls Tryz.prog 147 #[.int .i64 n] w fun e w' => e = .returned (.bool (decide (0 ≤ n ∧ n ≤ 1000000))) ∧ w = w' := by
  go_enter Tryz.func147, Tryz.ntmps147
  go_wp2
  all_goals
    go_ret
    exact ⟨ret_bool (by simp_all <;> omega), rfl⟩

set_option maxRecDepth 100000 in
theorem noRule_spec (lo hi st mn mx : Int) (w : World) : Calls Tryz.prog 115 #[.agg #[.int .i64 lo, .int .i64 hi, .int .i64 st, .int .i64 mn, .int .i64 mx]] w fun e w' => e = .returned (.bool (ruleZ lo hi st mn mx)) ∧ Below w.heap.size w w' := by
  go_enter Tryz.func115, Tryz.ntmps115
  go_wp2
  all_goals
    go_ret
    exact ⟨ret_bool (by simp_all [ruleZ] <;> omega), by (repeat (first | (with_reducible exact Below.refl _ _) | (with_reducible assumption) | (with_reducible refine Below.setCell ?_ ?side _; case side => first | (with_reducible exact Nat.le_refl _) | (simp; done) | (simp only [World.size_alloc, World.size_setCell, World.size_drew, World.heap_drewN] at *; omega)) | (with_reducible refine below_alloc ?_ _) | (with_reducible refine Below.drew ?_) | (with_reducible refine below_drewN ?_) | (with_reducible refine below_via (by assumption) ?_)))⟩

set_option maxRecDepth 100000 in
set_option maxHeartbeats 1600000 in
theorem ruleOk_impl (lo hi st mn mx : Int) (w : World) : Calls Tryz.prog 48 #[.agg #[.int .i64 lo, .int .i64 hi, .int .i64 st, .int .i64 mn, .int .i64 mx]] w fun e w' => e = .returned (.bool (ruleOk lo hi st mn mx)) ∧ Below w.heap.size w w' := by
  go_enter Tryz.func48, Tryz.ntmps48
  go_wp2_with (((first | (go_at_call 86; refine (isBand_impl _ _ _).mono ?_) | (go_at_call 85; refine (in_impl _ _ _ _).mono ?_)); rintro e w1 ⟨rfl, rfl⟩))
  all_goals
    go_ret
    exact ⟨ret_bool (by simp_all [inB, ruleOk] <;> omega), by (repeat (first | (with_reducible exact Below.refl _ _) | (with_reducible assumption) | (with_reducible refine Below.setCell ?_ ?side _; case side => first | (with_reducible exact Nat.le_refl _) | (simp; done) | (simp only [World.size_alloc, World.size_setCell, World.size_drew, World.heap_drewN] at *; omega)) | (with_reducible refine below_alloc ?_ _) | (with_reducible refine Below.drew ?_) | (with_reducible refine below_drewN ?_) | (with_reducible refine below_via (by assumption) ?_)))⟩

set_option maxRecDepth 100000 in
set_option maxHeartbeats 1600000 in
theorem ruleOk_spec (lo hi st mn mx : Int) (w : World) : Calls Tryz.prog 118 #[.agg #[.int .i64 lo, .int .i64 hi, .int .i64 st, .int .i64 mn, .int .i64 mx]] w fun e w' => e = .returned (.bool (ruleOk lo hi st mn mx)) ∧ Below w.heap.size w w' := by
  go_enter Tryz.func118, Tryz.ntmps118
  go_wp2_with (((first | (go_at_call 146; refine (l09Band_spec _ _ _).mono ?_) | (go_at_call 147; refine (l10Part_spec _ _).mono ?_)); rintro e w1 ⟨rfl, rfl⟩))
  all_goals
    go_ret
    exact ⟨ret_bool (by simp_all [inB, ruleOk] <;> omega), by (repeat (first | (with_reducible exact Below.refl _ _) | (with_reducible assumption) | (with_reducible refine Below.setCell ?_ ?side _; case side => first | (with_reducible exact Nat.le_refl _) | (simp; done) | (simp only [World.size_alloc, World.size_setCell, World.size_drew, World.heap_drewN] at *; omega)) | (with_reducible refine below_alloc ?_ _) | (with_reducible refine Below.drew ?_) | (with_reducible refine below_drewN ?_) | (with_reducible refine below_via (by assumption) ?_)))⟩

def takeB : List UInt8 := [116, 97, 107, 101, 32]
def crashB : List UInt8 := [99, 114, 97, 115, 104]
def turnB : List UInt8 := [116, 117, 114, 110]
def syncB : List UInt8 := [115, 121, 110, 99]
def startB : List UInt8 := [115, 116, 97, 114, 116]
def evZ (k key ch too amt fee : Int) (yes : Bool) : Bool := decide (k = 0 ∧ key = 0 ∧ ch = 0 ∧ too = 0 ∧ amt = 0 ∧ fee = 0 ∧ yes = false)
def stText (kd k key ch too amt fee : Int) (yes : Bool) (xs : List Int) (lo hi st mn mx : Int) : List UInt8 :=
  if (kd ≠ 1 ∧ evZ k key ch too amt fee yes = false) ∨ (kd ≠ 3 ∧ 0 < xs.length) ∨ (kd ≠ 5 ∧ ruleZ lo hi st mn mx = false) then []
  else if kd = 1 then (if evOk k key ch too amt fee yes = true then takeB ++ evText k key ch too amt fee yes else [])
  else if kd = 2 then syncB else if kd = 4 then startB
  else if kd = 3 then (if xs.all amtOk = true then crashB ++ tailT xs else [])
  else if kd = 5 then (if ruleOk lo hi st mn mx = true then turnB ++ tailT [lo, hi, st, mn, mx] else []) else []
theorem str_eq {l l' : List UInt8} (h : l = l') : Ending.returned (.string (S l)) = Ending.returned (.string (S l')) := by rw [h]
theorem evText_bad {k key ch too amt fee : Int} {yes : Bool} (h : evOk k key ch too amt fee yes = false) : evText k key ch too amt fee yes = [] := by unfold evText; rw [h]; rfl
theorem evText_ne {k key ch too amt fee : Int} {yes : Bool} (h : evOk k key ch too amt fee yes = true) : evText k key ch too amt fee yes ≠ [] := by
  have hk := evOk_kind h
  have hw : ∀ n : Nat, n < 12 → 1 ≤ n → evWord (n : Int) ≠ [] := by decide
  unfold evText
  rw [if_pos h]
  intro e
  have e1 := (List.append_eq_nil_iff.1 (List.append_eq_nil_iff.1 e).1).1
  exact hw k.toNat (by omega) (by omega) (by rw [show ((k.toNat : Nat) : Int) = k by omega]; exact e1)

theorem szIntS_any (a : Option Addr) (len cap : Nat) (n : Int) (w : World) (hl : len ≤ 9223372036854775807) (h0 : 0 ≤ n) (h1 : n ≤ 1048576) : Calls Tryz.prog 22 #[.slice a len cap, .int .i64 n] w fun e w' =>
    e = .returned (.int .i64 (if n - (len : Int) < 0 then -1 else n - len)) ∧ w = w' := by
  go_enter Tryz.func22, Tryz.ntmps22
  go_wp2
  all_goals
    go_ret
    exact ⟨by simp_all; try omega, rfl⟩

set_option maxRecDepth 100000 in
set_option maxHeartbeats 1600000 in
theorem eqStep_any (kd k key ch too amt fee : Int) (yes : Bool) (a : Option Addr) (len cap : Nat) (lo hi st mn mx : Int) (a' : Option Addr) (cap' : Nat) (xs : List Int) (w : World) (S0 : IS w w.heap.size a len xs) (S1 : IS w w.heap.size a' len xs) : Calls Tryz.prog 39 #[.agg #[.int .i64 kd, .int .i64 k, .int .i64 key, .int .i64 ch, .int .i64 too, .int .i64 amt, .int .i64 fee, .bool yes, .slice a len cap, .int .i64 lo, .int .i64 hi, .int .i64 st, .int .i64 mn, .int .i64 mx], .agg #[.int .i64 kd, .int .i64 k, .int .i64 key, .int .i64 ch, .int .i64 too, .int .i64 amt, .int .i64 fee, .bool yes, .slice a' len cap', .int .i64 lo, .int .i64 hi, .int .i64 st, .int .i64 mn, .int .i64 mx]] w fun e w' =>
    e = .returned (.bool true) ∧ Below w.heap.size w w' := by
  go_enter Tryz.func39, Tryz.ntmps39
  go_wp2_with (((first | (go_at_call 74; refine (eqEvent_any _ _ _ _ _ _ _ _ _ _ _ _ _ _ _).mono ?_) | (go_at_call 34; refine (eqIntS_any _ _ _ _ _ _ _ _ _ (by (first | (with_reducible assumption) | (with_reducible exact OI.is (by assumption)) | (refine IS.keep (by with_reducible assumption) ?_; (repeat (first | (with_reducible assumption) | (with_reducible exact Below.refl _ _) | (with_reducible refine Below.setCell ?_ (by first | (simp; done) | (simp [*]; done)) _) | (with_reducible refine below_alloc ?_ _) | (with_reducible refine Below.drew ?_) | (with_reducible refine below_drewN ?_)))) | (refine OI.is (OI.keep (by with_reducible assumption) ?_); (repeat (first | (with_reducible assumption) | (with_reducible exact Below.refl _ _) | (with_reducible refine Below.setCell ?_ (by first | (simp; done) | (simp [*]; done)) _) | (with_reducible refine below_alloc ?_ _) | (with_reducible refine Below.drew ?_) | (with_reducible refine below_drewN ?_)))))) (by (first | (with_reducible assumption) | (with_reducible exact OI.is (by assumption)) | (refine IS.keep (by with_reducible assumption) ?_; (repeat (first | (with_reducible assumption) | (with_reducible exact Below.refl _ _) | (with_reducible refine Below.setCell ?_ (by first | (simp; done) | (simp [*]; done)) _) | (with_reducible refine below_alloc ?_ _) | (with_reducible refine Below.drew ?_) | (with_reducible refine below_drewN ?_)))) | (refine OI.is (OI.keep (by with_reducible assumption) ?_); (repeat (first | (with_reducible assumption) | (with_reducible exact Below.refl _ _) | (with_reducible refine Below.setCell ?_ (by first | (simp; done) | (simp [*]; done)) _) | (with_reducible refine below_alloc ?_ _) | (with_reducible refine Below.drew ?_) | (with_reducible refine below_drewN ?_))))))).mono ?_) | (go_at_call 79; refine (eqRule_any _ _ _ _ _ _ _ _ _ _ _).mono ?_)); (rintro e w1 ⟨rfl, hb⟩; (try (replace H0 := below_upd H0 hb (by (repeat (first | (with_reducible assumption) | (with_reducible exact Below.refl _ _) | (with_reducible refine Below.setCell ?_ (by first | (simp; done) | (simp [*]; done)) _) | (with_reducible refine below_alloc ?_ _) | (with_reducible refine Below.drew ?_) | (with_reducible refine below_drewN ?_)))); clear hc0 hf0 hs0 hz0; obtain ⟨hc0, hf0, hs0, hz0⟩ := brules H0)); (try (replace H1 := below_upd H1 hb (by (repeat (first | (with_reducible assumption) | (with_reducible exact Below.refl _ _) | (with_reducible refine Below.setCell ?_ (by first | (simp; done) | (simp [*]; done)) _) | (with_reducible refine below_alloc ?_ _) | (with_reducible refine Below.drew ?_) | (with_reducible refine below_drewN ?_)))); clear hc1 hf1 hs1 hz1; obtain ⟨hc1, hf1, hs1, hz1⟩ := brules H1)); (try (replace H2 := below_upd H2 hb (by (repeat (first | (with_reducible assumption) | (with_reducible exact Below.refl _ _) | (with_reducible refine Below.setCell ?_ (by first | (simp; done) | (simp [*]; done)) _) | (with_reducible refine below_alloc ?_ _) | (with_reducible refine Below.drew ?_) | (with_reducible refine below_drewN ?_)))); clear hc2 hf2 hs2 hz2; obtain ⟨hc2, hf2, hs2, hz2⟩ := brules H2)); (try replace S0 := S0.keep (below_via hb (by (repeat (first | (with_reducible assumption) | (with_reducible exact Below.refl _ _) | (with_reducible refine Below.setCell ?_ (by first | (simp; done) | (simp [*]; done)) _) | (with_reducible refine below_alloc ?_ _) | (with_reducible refine Below.drew ?_) | (with_reducible refine below_drewN ?_)))))); (try replace S1 := S1.keep (below_via hb (by (repeat (first | (with_reducible assumption) | (with_reducible exact Below.refl _ _) | (with_reducible refine Below.setCell ?_ (by first | (simp; done) | (simp [*]; done)) _) | (with_reducible refine below_alloc ?_ _) | (with_reducible refine Below.drew ?_) | (with_reducible refine below_drewN ?_)))))); (try replace S2 := S2.keep (below_via hb (by (repeat (first | (with_reducible assumption) | (with_reducible exact Below.refl _ _) | (with_reducible refine Below.setCell ?_ (by first | (simp; done) | (simp [*]; done)) _) | (with_reducible refine below_alloc ?_ _) | (with_reducible refine Below.drew ?_) | (with_reducible refine below_drewN ?_)))))); (try replace S3 := S3.keep (below_via hb (by (repeat (first | (with_reducible assumption) | (with_reducible exact Below.refl _ _) | (with_reducible refine Below.setCell ?_ (by first | (simp; done) | (simp [*]; done)) _) | (with_reducible refine below_alloc ?_ _) | (with_reducible refine Below.drew ?_) | (with_reducible refine below_drewN ?_)))))); (first | ((fail_if_success (have ht := H0)); have H0 := hb; obtain ⟨hc0, hf0, hs0, hz0⟩ := brules H0) | ((fail_if_success (have ht := H1)); have H1 := hb; obtain ⟨hc1, hf1, hs1, hz1⟩ := brules H1) | ((fail_if_success (have ht := H2)); have H2 := hb; obtain ⟨hc2, hf2, hs2, hz2⟩ := brules H2) | skip))))
  all_goals
    go_ret
    exact ⟨ret_bool (by simp_all), by (repeat (first | (with_reducible exact Below.refl _ _) | (with_reducible assumption) | (with_reducible refine Below.setCell ?_ ?side _; case side => first | (with_reducible exact Nat.le_refl _) | (simp; done) | (simp only [World.size_alloc, World.size_setCell, World.size_drew, World.heap_drewN] at *; omega)) | (with_reducible refine below_alloc ?_ _) | (with_reducible refine Below.drew ?_) | (with_reducible refine below_drewN ?_) | (with_reducible refine below_via (by assumption) ?_)))⟩

end Go.Proofs.YtafbdbefmlgioaaGreatDoor
