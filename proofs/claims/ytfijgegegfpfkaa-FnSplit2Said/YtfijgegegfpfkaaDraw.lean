/- What is drawn: numbers. -/
import Derived.Test.YtfijgegegfpfkaaCur
namespace Go.Proofs.Ytfijgegegfpfkaa
open Go.RowKit
set_option linter.unusedVariables false
set_option linter.unusedSimpArgs false

theorem wrap64_bd (n : Int) : -9223372036854775808 ≤ wrap64 n ∧ wrap64 n ≤ 9223372036854775807 := by unfold wrap64; omega

set_option maxRecDepth 100000 in
set_option maxHeartbeats 3200000 in
theorem raw_any (a : Option Addr) (len cap g : Nat) (w : World) (C0 : Cur w a len cap g) : Calls Try.prog 36 #[.pointer (some ⟨g, 0, none⟩)] w fun e w' =>
    (∃ x : Int, e = .returned (.int .i64 x) ∧ -9223372036854775808 ≤ x ∧ x ≤ 9223372036854775807) ∧ Drew w a len cap g w' := by
  have D0 := Drew.refl C0
  go_enter Try.func36, Try.ntmps36
  go_wp2_with ((go_at_call 35; refine (below_any _ _ _ _ _ _ (Drew.same D0 (by (repeat (first | (with_reducible exact D0) | (with_reducible refine Drew.setCell ?_ ?s1 _; case s1 => first | assumption | omega | (simp; omega)) | (with_reducible refine Drew.alloc ?_ _) | (with_reducible refine Drew.drewN ?_ _) | (with_reducible refine Drew.drew ?_)))))).mono ?_; rintro e w1 ⟨⟨x, rfl, hx0, hx1⟩, D1⟩; obtain ⟨hdc, hdf, hds, hdn, hdm⟩ := Drew.rules D1; have hdk := Drew.size D1; (try simp only [World.size_alloc, World.size_setCell, World.size_drew, World.heap_drewN] at hdk); clear hds; (try have L0 := lt_up L0 (show _ ≤ w1.heap.size by omega)); (try have L1 := lt_up L1 (show _ ≤ w1.heap.size by omega)); (try have L2 := lt_up L2 (show _ ≤ w1.heap.size by omega)); (try have L3 := lt_up L3 (show _ ≤ w1.heap.size by omega)); (try (first | ((fail_if_success (have ht := L0)); have L0 : w.heap.size < w1.heap.size := by omega) | ((fail_if_success (have ht := L1)); have L1 := Drew.box D1 _ (by simp only [World.size_alloc, World.size_setCell, World.size_drew, World.heap_drewN]; rfl)) | ((fail_if_success (have ht := L2)); have L2 := Drew.box D1 _ (by simp only [World.size_alloc, World.size_setCell, World.size_drew, World.heap_drewN]; rfl)) | ((fail_if_success (have ht := L3)); have L3 := Drew.box D1 _ (by simp only [World.size_alloc, World.size_setCell, World.size_drew, World.heap_drewN]; rfl)))); replace D0 := Drew.trans2 D0 (by (repeat (first | (with_reducible exact D0) | (with_reducible refine Drew.setCell ?_ ?s1 _; case s1 => first | assumption | omega | (simp; omega)) | (with_reducible refine Drew.alloc ?_ _) | (with_reducible refine Drew.drewN ?_ _) | (with_reducible refine Drew.drew ?_)))) D1; have hdz := Drew.size D0; clear D1))
  all_goals
    go_ret
    refine ⟨⟨_, rfl, ?_⟩, D0⟩
    first | omega | exact wrap64_bd _

set_option maxRecDepth 100000 in
set_option maxHeartbeats 3200000 in
theorem l16Amt_any (a : Option Addr) (len cap g : Nat) (w : World) (C0 : Cur w a len cap g) : Calls Try.prog 27 #[.pointer (some ⟨g, 0, none⟩)] w fun e w' =>
    (∃ x : Int, e = .returned (.int .i64 x) ∧ -9223372036854775808 ≤ x ∧ x ≤ 9223372036854775807) ∧ Drew w a len cap g w' := by
  have D0 := Drew.refl C0
  go_enter Try.func27, Try.ntmps27
  go_wp2_with (first | (go_at_call 35; refine (below_any _ _ _ _ _ _ (Drew.same D0 (by (repeat (first | (with_reducible exact D0) | (with_reducible refine Drew.setCell ?_ ?s1 _; case s1 => first | assumption | omega | (simp; omega)) | (with_reducible refine Drew.alloc ?_ _) | (with_reducible refine Drew.drewN ?_ _) | (with_reducible refine Drew.drew ?_)))))).mono ?_; rintro e w1 ⟨⟨x, rfl, hx0, hx1⟩, D1⟩; obtain ⟨hdc, hdf, hds, hdn, hdm⟩ := Drew.rules D1; have hdk := Drew.size D1; (try simp only [World.size_alloc, World.size_setCell, World.size_drew, World.heap_drewN] at hdk); clear hds; (try have L0 := lt_up L0 (show _ ≤ w1.heap.size by omega)); (try have L1 := lt_up L1 (show _ ≤ w1.heap.size by omega)); (try have L2 := lt_up L2 (show _ ≤ w1.heap.size by omega)); (try have L3 := lt_up L3 (show _ ≤ w1.heap.size by omega)); (try (first | ((fail_if_success (have ht := L0)); have L0 : w.heap.size < w1.heap.size := by omega) | ((fail_if_success (have ht := L1)); have L1 := Drew.box D1 _ (by simp only [World.size_alloc, World.size_setCell, World.size_drew, World.heap_drewN]; rfl)) | ((fail_if_success (have ht := L2)); have L2 := Drew.box D1 _ (by simp only [World.size_alloc, World.size_setCell, World.size_drew, World.heap_drewN]; rfl)) | ((fail_if_success (have ht := L3)); have L3 := Drew.box D1 _ (by simp only [World.size_alloc, World.size_setCell, World.size_drew, World.heap_drewN]; rfl)))); replace D0 := Drew.trans2 D0 (by (repeat (first | (with_reducible exact D0) | (with_reducible refine Drew.setCell ?_ ?s1 _; case s1 => first | assumption | omega | (simp; omega)) | (with_reducible refine Drew.alloc ?_ _) | (with_reducible refine Drew.drewN ?_ _) | (with_reducible refine Drew.drew ?_)))) D1; have hdz := Drew.size D0; clear D1) | (go_at_call 36; refine (raw_any _ _ _ _ _ (Drew.same D0 (by (repeat (first | (with_reducible exact D0) | (with_reducible refine Drew.setCell ?_ ?s1 _; case s1 => first | assumption | omega | (simp; omega)) | (with_reducible refine Drew.alloc ?_ _) | (with_reducible refine Drew.drewN ?_ _) | (with_reducible refine Drew.drew ?_)))))).mono ?_; rintro e w1 ⟨⟨x, rfl, hx0, hx1⟩, D1⟩; obtain ⟨hdc, hdf, hds, hdn, hdm⟩ := Drew.rules D1; have hdk := Drew.size D1; (try simp only [World.size_alloc, World.size_setCell, World.size_drew, World.heap_drewN] at hdk); clear hds; (try have L0 := lt_up L0 (show _ ≤ w1.heap.size by omega)); (try have L1 := lt_up L1 (show _ ≤ w1.heap.size by omega)); (try have L2 := lt_up L2 (show _ ≤ w1.heap.size by omega)); (try have L3 := lt_up L3 (show _ ≤ w1.heap.size by omega)); (try (first | ((fail_if_success (have ht := L0)); have L0 : w.heap.size < w1.heap.size := by omega) | ((fail_if_success (have ht := L1)); have L1 := Drew.box D1 _ (by simp only [World.size_alloc, World.size_setCell, World.size_drew, World.heap_drewN]; rfl)) | ((fail_if_success (have ht := L2)); have L2 := Drew.box D1 _ (by simp only [World.size_alloc, World.size_setCell, World.size_drew, World.heap_drewN]; rfl)) | ((fail_if_success (have ht := L3)); have L3 := Drew.box D1 _ (by simp only [World.size_alloc, World.size_setCell, World.size_drew, World.heap_drewN]; rfl)))); replace D0 := Drew.trans2 D0 (by (repeat (first | (with_reducible exact D0) | (with_reducible refine Drew.setCell ?_ ?s1 _; case s1 => first | assumption | omega | (simp; omega)) | (with_reducible refine Drew.alloc ?_ _) | (with_reducible refine Drew.drewN ?_ _) | (with_reducible refine Drew.drew ?_)))) D1; have hdz := Drew.size D0; clear D1))
  all_goals
    go_ret
    refine ⟨⟨_, rfl, ?_⟩, D0⟩
    first | omega | exact wrap64_bd _

end Go.Proofs.Ytfijgegegfpfkaa
