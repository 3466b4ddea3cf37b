/- Two ways to split: the law walked. -/
import Derived.Test.YtfijgegegfpfkaaSpl3
import Derived.Test.YtfijgegegfpfkaaDrawS
import Derived.Test.YtfijgegegfpfkaaSFew5
import Derived.Test.YtfijgegegfpfkaaPSum
import Derived.Test.YtfijgegegfpfkaaSplit
import Derived.Test.YtfijgegegfpfkaaOpenB
import Derived.Deep.RegionWith
namespace Go.Proofs.Ytfijgegegfpfkaa
open Go.RowKit
set_option linter.unusedVariables false
set_option linter.unusedSimpArgs false

set_option maxRecDepth 100000 in
set_option maxHeartbeats 6400000 in
theorem walk_FnSplit2 (a : Option Addr) (len cap : Nat) (xs : List Int) (w : World) (S0 : Bs w w.heap.size a len xs) : Calls Try.prog 4 #[.slice a len cap] w fun e w' => e = .returned (.bool true) ∧ Below w.heap.size w w' := by
  have hl := S0.lenB
  by_cases hlen : len ≤ 1048576
  · go_enter Try.func4, Try.ntmps4
    go_wp2_with fail
    refine (drawSplit_any _ _ _ xs _ S0).mono ?_
    rintro e w1 ⟨⟨n, sa, sc, cs, rfl, hn, i1, hcs⟩, b1⟩
    have z1 := b1.size
    go_wp2_with fail
    refine (split_impl n _ _ _ cs _ i1).mono ?_
    rintro e w2 ⟨⟨a2, c2, rfl, o2⟩, b2⟩
    have z2 := b2.size
    have B2 := b1.trans (b2.mono z1)
    have i2 := i1.keep b2
    go_wp2_with fail
    refine (split_spec n _ _ _ cs _ i2).mono ?_
    rintro e w3 ⟨⟨a3, c3, rfl, o3⟩, b3⟩
    have z3 := b3.size
    have B3 := below_via b3 B2
    have i3 := i2.keep b3
    have p3 := (o2.keep b3)
    go_wp2_with fail
    refine (splitFew_impl n _ _ _ cs _ i3).mono ?_
    rintro e w4 ⟨⟨a4, c4, rfl, o4⟩, b4⟩
    have B4 := below_via b4 B3
    have i4 := i3.keep b4
    have p4 := (p3.keep b4).is
    have q4 := o4.is
    obtain ⟨A, hA⟩ : ∃ A, A = splitL n cs := ⟨_, rfl⟩
    obtain ⟨F, hF⟩ : ∃ F, F = splitF n cs := ⟨_, rfl⟩
    cases h : (splitL n cs).2 with
    | false =>
      obtain ⟨h1, h2, h3⟩ := split_none h
      rw [← hA] at h h2 p4
      rw [← hF] at h1 h3 q4
      simp only [← hA, ← hF]
      clear hA hF o2 o3 o4 p3 i1 i2 i3 i4 b2 b3 b4 B2 B3
      obtain ⟨Al, Ab⟩ := A
      obtain ⟨Fl, Fb⟩ := F
      simp only at h h1 h2 h3
      subst h; subst h1; subst h2; subst h3
      go_wp2
      go_ret
      exact ⟨rfl, by (repeat (first | (with_reducible exact Below.refl _ _) | (with_reducible assumption) | (with_reducible refine Below.setCell ?_ ?side _; case side => first | (with_reducible exact Nat.le_refl _) | (simp; done) | (simp only [World.size_alloc, World.size_setCell, World.size_drew, World.heap_drewN] at *; omega)) | (with_reducible refine below_alloc ?_ _) | (with_reducible refine Below.drew ?_) | (with_reducible refine below_drewN ?_) | (with_reducible refine below_via (by assumption) ?_)))⟩
    | true =>
      obtain ⟨h1, h2, h3, h4, h5, h6, h7, h8⟩ := split_both h
      rw [← hA] at h h2 h4 h6 h8 p4
      rw [← hF] at h1 h3 h5 h7 h8 q4
      simp only [← hA, ← hF]
      clear hA hF o2 o3 o4 p3 i1 i2 i3 b2 b3 b4 B2 B3
      obtain ⟨Al, Ab⟩ := A
      obtain ⟨Fl, Fb⟩ := F
      simp only at h h1 h2 h3 h4 h5 h6 h7 h8 p4 q4
      subst h; subst h1
      have H2 := Lib.hid h2
      have H3 := Lib.hid h3
      have H4 := Lib.hid h4
      have H5 := Lib.hid h5
      have H6 := Lib.hid h6
      have H7 := Lib.hid h7
      have h9 : ((posCount Fl : Nat) : Int) ≤ ((posCount Al : Nat) : Int) := by omega
      have nf : ¬ (((posCount Al : Nat) : Int) < ((posCount Fl : Nat) : Int)) := by omega
      clear h2 h3 h4 h5 h6 h7 h8
      go_wp2_with fail
      refine (partsSum_impl _ _ _ Al _ p4).mono ?_
      rintro e w5 ⟨he, rfl⟩
      rw [if_pos H2.out, H4.out] at he
      subst he
      go_wp2_with fail
      refine (partsSum_impl _ _ _ Fl _ q4).mono ?_
      rintro e w6 ⟨he, rfl⟩
      rw [if_pos H3.out, H5.out] at he
      subst he
      have q9 : decide (((posCount Fl : Nat) : Int) ≤ ((posCount Al : Nat) : Int)) = true := decide_eq_true h9
      go_wp2_with fail
      refine (fits_impl _ _ _ _ _ _ Al cs _ (p4.keep (by (repeat (first | (with_reducible exact Below.refl _ _) | (with_reducible assumption) | (with_reducible refine Below.setCell ?_ ?side _; case side => first | (with_reducible exact Nat.le_refl _) | (simp; done) | (simp only [World.size_alloc, World.size_setCell, World.size_drew, World.heap_drewN] at *; omega)) | (with_reducible refine below_alloc ?_ _) | (with_reducible refine Below.drew ?_) | (with_reducible refine below_drewN ?_) | (with_reducible refine below_via (by assumption) ?_))))) (i4.keep (by (repeat (first | (with_reducible exact Below.refl _ _) | (with_reducible assumption) | (with_reducible refine Below.setCell ?_ ?side _; case side => first | (with_reducible exact Nat.le_refl _) | (simp; done) | (simp only [World.size_alloc, World.size_setCell, World.size_drew, World.heap_drewN] at *; omega)) | (with_reducible refine below_alloc ?_ _) | (with_reducible refine Below.drew ?_) | (with_reducible refine below_drewN ?_) | (with_reducible refine below_via (by assumption) ?_)))))).mono ?_
      rintro e w7 ⟨he, b7⟩
      rw [H6.out] at he
      subst he
      have B7 : Below w4.heap.size w4 w7 := below_via b7 (by (repeat (first | (with_reducible exact Below.refl _ _) | (with_reducible assumption) | (with_reducible refine Below.setCell ?_ ?side _; case side => first | (with_reducible exact Nat.le_refl _) | (simp; done) | (simp only [World.size_alloc, World.size_setCell, World.size_drew, World.heap_drewN] at *; omega)) | (with_reducible refine below_alloc ?_ _) | (with_reducible refine Below.drew ?_) | (with_reducible refine below_drewN ?_) | (with_reducible refine below_via (by assumption) ?_))))
      go_wp2_with fail
      refine (fits_impl _ _ _ _ _ _ Fl cs _ (q4.keep (by (repeat (first | (with_reducible exact Below.refl _ _) | (with_reducible assumption) | (with_reducible refine Below.setCell ?_ ?side _; case side => first | (with_reducible exact Nat.le_refl _) | (simp; done) | (simp only [World.size_alloc, World.size_setCell, World.size_drew, World.heap_drewN] at *; omega)) | (with_reducible refine below_alloc ?_ _) | (with_reducible refine Below.drew ?_) | (with_reducible refine below_drewN ?_) | (with_reducible refine below_via (by assumption) ?_))))) (i4.keep (by (repeat (first | (with_reducible exact Below.refl _ _) | (with_reducible assumption) | (with_reducible refine Below.setCell ?_ ?side _; case side => first | (with_reducible exact Nat.le_refl _) | (simp; done) | (simp only [World.size_alloc, World.size_setCell, World.size_drew, World.heap_drewN] at *; omega)) | (with_reducible refine below_alloc ?_ _) | (with_reducible refine Below.drew ?_) | (with_reducible refine below_drewN ?_) | (with_reducible refine below_via (by assumption) ?_)))))).mono ?_
      rintro e w8 ⟨he, b8⟩
      rw [H7.out] at he
      subst he
      have B8 : Below w4.heap.size w4 w8 := below_via b8 (by (repeat (first | (with_reducible exact Below.refl _ _) | (with_reducible assumption) | (with_reducible refine Below.setCell ?_ ?side _; case side => first | (with_reducible exact Nat.le_refl _) | (simp; done) | (simp only [World.size_alloc, World.size_setCell, World.size_drew, World.heap_drewN] at *; omega)) | (with_reducible refine below_alloc ?_ _) | (with_reducible refine Below.drew ?_) | (with_reducible refine below_drewN ?_) | (with_reducible refine below_via (by assumption) ?_))))
      go_wp2_with fail
      refine (partsUsed_impl _ _ _ Fl _ (q4.keep (by (repeat (first | (with_reducible exact Below.refl _ _) | (with_reducible assumption) | (with_reducible refine Below.setCell ?_ ?side _; case side => first | (with_reducible exact Nat.le_refl _) | (simp; done) | (simp only [World.size_alloc, World.size_setCell, World.size_drew, World.heap_drewN] at *; omega)) | (with_reducible refine below_alloc ?_ _) | (with_reducible refine Below.drew ?_) | (with_reducible refine below_drewN ?_) | (with_reducible refine below_via (by assumption) ?_)))))).mono ?_
      rintro e w9 ⟨rfl, rfl⟩
      go_wp2_with fail
      refine (partsUsed_impl _ _ _ Al _ (p4.keep (by (repeat (first | (with_reducible exact Below.refl _ _) | (with_reducible assumption) | (with_reducible refine Below.setCell ?_ ?side _; case side => first | (with_reducible exact Nat.le_refl _) | (simp; done) | (simp only [World.size_alloc, World.size_setCell, World.size_drew, World.heap_drewN] at *; omega)) | (with_reducible refine below_alloc ?_ _) | (with_reducible refine Below.drew ?_) | (with_reducible refine below_drewN ?_) | (with_reducible refine below_via (by assumption) ?_)))))).mono ?_
      rintro e w9 ⟨rfl, rfl⟩
      go_wp2
      all_goals
        go_ret
        exact ⟨rfl, by (repeat (first | (with_reducible exact Below.refl _ _) | (with_reducible assumption) | (with_reducible refine Below.setCell ?_ ?side _; case side => first | (with_reducible exact Nat.le_refl _) | (simp; done) | (simp only [World.size_alloc, World.size_setCell, World.size_drew, World.heap_drewN] at *; omega)) | (with_reducible refine below_alloc ?_ _) | (with_reducible refine Below.drew ?_) | (with_reducible refine below_drewN ?_) | (with_reducible refine below_via (by assumption) ?_)))⟩
  · go_enter Try.func4, Try.ntmps4
    go_wp2
    go_ret
    exact ⟨rfl, Below.refl _ _⟩

end Go.Proofs.Ytfijgegegfpfkaa
