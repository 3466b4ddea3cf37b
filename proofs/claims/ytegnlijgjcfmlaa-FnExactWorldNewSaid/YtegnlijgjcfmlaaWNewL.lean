/- The law on new worlds walked. -/
import Derived.Test.YtegnlijgjcfmlaaWNew
import Derived.Deep.RegionHeld3
import Derived.Deep.DeepCutAuto
namespace Go.Proofs.Ytegnlijgjcfmlaa
open Go.RowKit
set_option linter.unusedVariables false
set_option linter.unusedSimpArgs false

theorem one_WC (a : Option Addr) (k c : Nat) : (WC a k c).toArray.all (·.oneCell') = true := all_oneCell_toArray (by simp [WC, Value.oneCell'])
theorem setCells_new (w : World) (t : TypeId) : ∀ (vs pre rest : List Value), rest.length = vs.length → (w.alloc (.cells (pre ++ rest).toArray t)).setCells w.heap.size pre.length vs = w.alloc (.cells (pre ++ vs).toArray t)
  | [], pre, [], _ => rfl
  | v :: vs, pre, r :: rest, h => by
    rw [World.setCells, World.setCell_alloc_at _ _ _ _ _ rfl]
    have e : (pre ++ r :: rest).toArray.setIfInBounds pre.length v = ((pre ++ [v]) ++ rest).toArray := by
      simp
    rw [e]
    have := setCells_new w t vs (pre ++ [v]) rest (by simpa using h)
    rw [List.length_append, List.length_singleton] at this
    rw [this]
    simp
  | [], _, _ :: _, h => by simp at h
  | _ :: _, _, [], h => by simp at h
theorem setCells_new0 (w : World) (Z : Array Value) (t : TypeId) (vs : List Value) (h : Z.size = vs.length) : (w.alloc (.cells Z t)).setCells w.heap.size 0 vs = w.alloc (.cells vs.toArray t) := by
  have := setCells_new w t vs [] Z.toList (by simpa using h)
  simpa using this
theorem range_new (w : World) (vs : List Value) (t : TypeId) : (w.alloc (.cells vs.toArray t)).rangeAt w.heap.size 0 vs := by
  intro j v hv
  rw [World.cell?_alloc_at _ _ _ _ rfl]
  simpa using hv
theorem range_keep {w w' : World} {b o : Nat} {cs : List Value} (h : w.rangeAt b o cs) (hb : Below w.heap.size w w') (hlt : b < w.heap.size) : w'.rangeAt b o cs := fun j v hv => by
  rw [hb.cell (p := ⟨b, o + j, none⟩) hlt]
  exact h j v hv

set_option maxRecDepth 100000 in
set_option maxHeartbeats 6400000 in
theorem walk_FnExactWorldNew (n : Int) (_ : (Lit.int .i64 n).wf = true) (w : World) : Calls Try.prog 8 #[.int .i64 n] w fun e w' => e = .returned (.bool true) ∧ Below w.heap.size w w' := by
  go_enter Try.func8, Try.ntmps8
  go_wp2_with fail
  refine (worldNew_spec n _).mono ?_
  rintro e w1 ⟨⟨a, c, xs, rfl, z1⟩, b1⟩
  have B1 := below_via b1 (by (repeat (first | (with_reducible exact Below.refl _ _) | (with_reducible assumption) | (with_reducible refine Below.setCell ?_ ?side _; case side => first | (with_reducible exact Nat.le_refl _) | (simp; done) | (simp only [World.size_alloc, World.size_setCell, World.size_drew, World.heap_drewN] at *; omega)) | (with_reducible refine below_alloc ?_ _) | (with_reducible refine Below.drew ?_) | (with_reducible refine below_drewN ?_) | (with_reducible refine below_via (by assumption) ?_))) : Below w.heap.size w _)
  obtain ⟨k, hk⟩ : ∃ k, k = cellsN n := ⟨_, rfl⟩
  obtain ⟨D, hD⟩ : ∃ D, D = decide (1 ≤ n ∧ n ≤ 600) := ⟨_, rfl⟩
  rw [← hk] at z1 ⊢
  rw [← hD]
  have Hk := Lib.hid hk
  have HD := Lib.hid hD
  clear hk hD b1
  go_wp2_with (((show Go.wpList _ _ _ ((Go.Oper.mk _ (Go.Op.store 74 _ _) _ _ _ _) :: _) _ _); refine wpList_store_mid rfl 74 _ _ rfl w1.heap.size 0 (WC a k c).toArray rfl rfl (there_new w1 _ _ 20 (by decide)) infoWorld (one_WC _ _ _) ?_; rw [show World.setCells _ w1.heap.size 0 (WC a k c).toArray.toList = w1.alloc (.cells (WC a k c).toArray 74) from setCells_new0 w1 #[.bool false, .slice none 0 0, .slice none 0 0, .int .i64 0, .int .i64 0, .int .i64 0, .int .i64 0, .int .i64 0, .slice none 0 0, .slice none 0 0, .slice none 0 0, .int .i64 0, .slice none 0 0, .slice none 0 0, .slice none 0 0, .slice none 0 0, .slice none 0 0, .slice none 0 0, .slice none 0 0, .slice none 0 0] 74 (WC a k c) rfl]))
  refine (worldNew_impl n _).mono ?_
  rintro e w2 ⟨⟨a2, c2, xs2, rfl, z2⟩, b2⟩
  rw [← Hk.out] at z2 ⊢
  rw [← HD.out]
  have B2 := below_via b2 (by (repeat (first | (with_reducible exact Below.refl _ _) | (with_reducible assumption) | (with_reducible refine Below.setCell ?_ ?side _; case side => first | (with_reducible exact Nat.le_refl _) | (simp; done) | (simp only [World.size_alloc, World.size_setCell, World.size_drew, World.heap_drewN] at *; omega)) | (with_reducible refine below_alloc ?_ _) | (with_reducible refine Below.drew ?_) | (with_reducible refine below_drewN ?_) | (with_reducible refine below_via (by assumption) ?_))) : Below w.heap.size w _)
  have r1 := range_keep (range_new w1 (WC a k c) 74) b2 (by simp)
  have y1 := FS.keep z1 (below_via b2 (by (repeat (first | (with_reducible exact Below.refl _ _) | (with_reducible assumption) | (with_reducible refine Below.setCell ?_ ?side _; case side => first | (with_reducible exact Nat.le_refl _) | (simp; done) | (simp only [World.size_alloc, World.size_setCell, World.size_drew, World.heap_drewN] at *; omega)) | (with_reducible refine below_alloc ?_ _) | (with_reducible refine Below.drew ?_) | (with_reducible refine below_drewN ?_) | (with_reducible refine below_via (by assumption) ?_))) : Below w1.heap.size w1 _))
  have lt1 : w1.heap.size < w2.heap.size := by have := b2.size; simp at this; omega
  clear b2 z1
  go_upto_region 3 with (((show Go.wpList _ _ _ ((Go.Oper.mk _ (Go.Op.store 74 _ _) _ _ _ _) :: _) _ _); refine wpList_store_mid rfl 74 _ _ rfl w2.heap.size 0 (WC a2 k c2).toArray rfl rfl (there_new w2 _ _ 20 (by decide)) infoWorld (one_WC _ _ _) ?_; rw [show World.setCells _ w2.heap.size 0 (WC a2 k c2).toArray.toList = w2.alloc (.cells (WC a2 k c2).toArray 74) from setCells_new0 w2 #[.bool false, .slice none 0 0, .slice none 0 0, .int .i64 0, .int .i64 0, .int .i64 0, .int .i64 0, .int .i64 0, .slice none 0 0, .slice none 0 0, .slice none 0 0, .int .i64 0, .slice none 0 0, .slice none 0 0, .slice none 0 0, .slice none 0 0, .slice none 0 0, .slice none 0 0, .slice none 0 0, .slice none 0 0] 74 (WC a2 k c2) rfl]))
  have s1 := World.rangeAt_alloc r1 (.cells (WC a2 k c2).toArray 74)
  have s2 := range_new w2 (WC a2 k c2) 74
  have x1 := FS.keep y1 (below_alloc (Below.refl _ _) (.cells (WC a2 k c2).toArray 74))
  have x2 := FS.keep z2 (below_alloc (Below.refl _ _) (.cells (WC a2 k c2).toArray 74))
  have BW := below_alloc B2 (.cells (WC a2 k c2).toArray 74)
  have l1 : w1.heap.size < (w2.alloc (.cells (WC a2 k c2).toArray 74)).heap.size := by simp; omega
  have l2 : w2.heap.size < (w2.alloc (.cells (WC a2 k c2).toArray 74)).heap.size := by simp
  generalize w2.alloc (.cells (WC a2 k c2).toArray 74) = W at s1 s2 x1 x2 BW l1 l2 ⊢
  clear r1 y1 z2 lt1 B2
  clear B1
  generalize w1.heap.size = p1 at s1 l1 ⊢
  generalize w2.heap.size = p2 at s2 l2 ⊢
  go_wp2_with (first | ((show Go.wpList _ _ _ ((Go.Oper.mk _ (Go.Op.load 74 _) _ _ _ _) :: _) _ _); refine wpList_load_mid rfl 74 _ rfl p2 0 rfl (WC a2 k c2) _ s2 Try.underlying74 rfl infoWorld ?_) | ((show Go.wpList _ _ _ ((Go.Oper.mk _ (Go.Op.load 74 _) _ _ _ _) :: _) _ _); refine wpList_load_mid rfl 74 _ rfl p1 0 rfl (WC a k c) _ s1 Try.underlying74 rfl infoWorld ?_))
  refine (eqWorld_z a2 k c2 a c xs2 xs _ x2 x1).mono ?_
  rintro e w3 ⟨rfl, b⟩
  have c_ := below_via b (by (repeat (first | (with_reducible exact Below.refl _ _) | (with_reducible assumption) | (with_reducible refine Below.setCell ?_ ?side _; case side => first | (with_reducible exact Nat.le_refl _) | (simp; done) | (simp only [World.size_alloc, World.size_setCell, World.size_drew, World.heap_drewN] at *; omega)) | (with_reducible refine below_alloc ?_ _) | (with_reducible refine Below.drew ?_) | (with_reducible refine below_drewN ?_) | (with_reducible refine below_via (by assumption) ?_))) : Below W.heap.size W _)
  replace s1 := range_keep s1 c_ l1
  replace x1 := FS.keep x1 c_
  replace l1 := Nat.lt_of_lt_of_le l1 c_.size
  replace s2 := range_keep s2 c_ l2
  replace x2 := FS.keep x2 c_
  replace l2 := Nat.lt_of_lt_of_le l2 c_.size
  replace BW := below_via c_ BW
  clear b c_
  go_wp2_with (first | ((show Go.wpList _ _ _ ((Go.Oper.mk _ (Go.Op.load 74 _) _ _ _ _) :: _) _ _); refine wpList_load_mid rfl 74 _ rfl p2 0 rfl (WC a2 k c2) _ s2 Try.underlying74 rfl infoWorld ?_) | ((show Go.wpList _ _ _ ((Go.Oper.mk _ (Go.Op.load 74 _) _ _ _ _) :: _) _ _); refine wpList_load_mid rfl 74 _ rfl p1 0 rfl (WC a k c) _ s1 Try.underlying74 rfl infoWorld ?_))
  refine (markWorld_z a2 k c2 xs2 _ (FS.keep x2 (by (repeat (first | (with_reducible exact Below.refl _ _) | (with_reducible assumption) | (with_reducible refine Below.setCell ?_ ?side _; case side => first | (with_reducible exact Nat.le_refl _) | (simp; done) | (simp only [World.size_alloc, World.size_setCell, World.size_drew, World.heap_drewN] at *; omega)) | (with_reducible refine below_alloc ?_ _) | (with_reducible refine Below.drew ?_) | (with_reducible refine below_drewN ?_) | (with_reducible refine below_via (by assumption) ?_)))))).mono ?_
  rintro e w4 ⟨rfl, b⟩
  have c_ := below_via b (by (repeat (first | (with_reducible exact Below.refl _ _) | (with_reducible assumption) | (with_reducible refine Below.setCell ?_ ?side _; case side => first | (with_reducible exact Nat.le_refl _) | (simp; done) | (simp only [World.size_alloc, World.size_setCell, World.size_drew, World.heap_drewN] at *; omega)) | (with_reducible refine below_alloc ?_ _) | (with_reducible refine Below.drew ?_) | (with_reducible refine below_drewN ?_) | (with_reducible refine below_via (by assumption) ?_))) : Below w3.heap.size w3 _)
  replace s1 := range_keep s1 c_ l1
  replace x1 := FS.keep x1 c_
  replace l1 := Nat.lt_of_lt_of_le l1 c_.size
  replace s2 := range_keep s2 c_ l2
  replace x2 := FS.keep x2 c_
  replace l2 := Nat.lt_of_lt_of_le l2 c_.size
  replace BW := below_via c_ BW
  clear b c_
  go_wp2_with (first | ((show Go.wpList _ _ _ ((Go.Oper.mk _ (Go.Op.load 74 _) _ _ _ _) :: _) _ _); refine wpList_load_mid rfl 74 _ rfl p2 0 rfl (WC a2 k c2) _ s2 Try.underlying74 rfl infoWorld ?_) | ((show Go.wpList _ _ _ ((Go.Oper.mk _ (Go.Op.load 74 _) _ _ _ _) :: _) _ _); refine wpList_load_mid rfl 74 _ rfl p1 0 rfl (WC a k c) _ s1 Try.underlying74 rfl infoWorld ?_))
  refine (heldWorld_z a2 k c2 xs2 _ (FS.keep x2 (by (repeat (first | (with_reducible exact Below.refl _ _) | (with_reducible assumption) | (with_reducible refine Below.setCell ?_ ?side _; case side => first | (with_reducible exact Nat.le_refl _) | (simp; done) | (simp only [World.size_alloc, World.size_setCell, World.size_drew, World.heap_drewN] at *; omega)) | (with_reducible refine below_alloc ?_ _) | (with_reducible refine Below.drew ?_) | (with_reducible refine below_drewN ?_) | (with_reducible refine below_via (by assumption) ?_)))))).mono ?_
  rintro e w5 ⟨rfl, b⟩
  have c_ := below_via b (by (repeat (first | (with_reducible exact Below.refl _ _) | (with_reducible assumption) | (with_reducible refine Below.setCell ?_ ?side _; case side => first | (with_reducible exact Nat.le_refl _) | (simp; done) | (simp only [World.size_alloc, World.size_setCell, World.size_drew, World.heap_drewN] at *; omega)) | (with_reducible refine below_alloc ?_ _) | (with_reducible refine Below.drew ?_) | (with_reducible refine below_drewN ?_) | (with_reducible refine below_via (by assumption) ?_))) : Below w4.heap.size w4 _)
  replace s1 := range_keep s1 c_ l1
  replace x1 := FS.keep x1 c_
  replace l1 := Nat.lt_of_lt_of_le l1 c_.size
  replace s2 := range_keep s2 c_ l2
  replace x2 := FS.keep x2 c_
  replace l2 := Nat.lt_of_lt_of_le l2 c_.size
  replace BW := below_via c_ BW
  clear b c_
  go_wp2_with (first | ((show Go.wpList _ _ _ ((Go.Oper.mk _ (Go.Op.load 74 _) _ _ _ _) :: _) _ _); refine wpList_load_mid rfl 74 _ rfl p2 0 rfl (WC a2 k c2) _ s2 Try.underlying74 rfl infoWorld ?_) | ((show Go.wpList _ _ _ ((Go.Oper.mk _ (Go.Op.load 74 _) _ _ _ _) :: _) _ _); refine wpList_load_mid rfl 74 _ rfl p1 0 rfl (WC a k c) _ s1 Try.underlying74 rfl infoWorld ?_))
  refine (worldNew_impl n _).mono ?_
  rintro e w6 ⟨⟨a3, c3, xs3, rfl, z3⟩, b⟩
  rw [← Hk.out] at z3 ⊢
  rw [← HD.out]
  have c_ := below_via b (by (repeat (first | (with_reducible exact Below.refl _ _) | (with_reducible assumption) | (with_reducible refine Below.setCell ?_ ?side _; case side => first | (with_reducible exact Nat.le_refl _) | (simp; done) | (simp only [World.size_alloc, World.size_setCell, World.size_drew, World.heap_drewN] at *; omega)) | (with_reducible refine below_alloc ?_ _) | (with_reducible refine Below.drew ?_) | (with_reducible refine below_drewN ?_) | (with_reducible refine below_via (by assumption) ?_))) : Below w5.heap.size w5 _)
  replace s1 := range_keep s1 c_ l1
  replace x1 := FS.keep x1 c_
  replace l1 := Nat.lt_of_lt_of_le l1 c_.size
  replace s2 := range_keep s2 c_ l2
  replace x2 := FS.keep x2 c_
  replace l2 := Nat.lt_of_lt_of_le l2 c_.size
  replace BW := below_via c_ BW
  clear b c_
  go_wp2_with (first | ((show Go.wpList _ _ _ ((Go.Oper.mk _ (Go.Op.store 74 _ _) _ _ _ _) :: _) _ _); refine wpList_store_mid rfl 74 _ _ rfl w6.heap.size 0 (WC a3 k c3).toArray rfl rfl (there_new w6 _ _ 20 (by decide)) infoWorld (one_WC _ _ _) ?_; rw [show World.setCells _ w6.heap.size 0 (WC a3 k c3).toArray.toList = w6.alloc (.cells (WC a3 k c3).toArray 74) from setCells_new0 w6 #[.bool false, .slice none 0 0, .slice none 0 0, .int .i64 0, .int .i64 0, .int .i64 0, .int .i64 0, .int .i64 0, .slice none 0 0, .slice none 0 0, .slice none 0 0, .int .i64 0, .slice none 0 0, .slice none 0 0, .slice none 0 0, .slice none 0 0, .slice none 0 0, .slice none 0 0, .slice none 0 0, .slice none 0 0] 74 (WC a3 k c3) rfl]) | ((show Go.wpList _ _ _ ((Go.Oper.mk _ (Go.Op.load 74 _) _ _ _ _) :: _) _ _); refine wpList_load_mid rfl 74 _ rfl w6.heap.size 0 rfl (WC a3 k c3) _ (range_new w6 _ _) Try.underlying74 rfl infoWorld ?_) | ((show Go.wpList _ _ _ ((Go.Oper.mk _ (Go.Op.load 74 _) _ _ _ _) :: _) _ _); refine wpList_load_mid rfl 74 _ rfl p1 0 rfl (WC a k c) _ (World.rangeAt_alloc s1 _) Try.underlying74 rfl infoWorld ?_))
  refine (eqWorld_z a3 k c3 a c xs3 xs _ (FS.keep z3 (by (repeat (first | (with_reducible exact Below.refl _ _) | (with_reducible assumption) | (with_reducible refine Below.setCell ?_ ?side _; case side => first | (with_reducible exact Nat.le_refl _) | (simp; done) | (simp only [World.size_alloc, World.size_setCell, World.size_drew, World.heap_drewN] at *; omega)) | (with_reducible refine below_alloc ?_ _) | (with_reducible refine Below.drew ?_) | (with_reducible refine below_drewN ?_) | (with_reducible refine below_via (by assumption) ?_))))) (FS.keep x1 (by (repeat (first | (with_reducible exact Below.refl _ _) | (with_reducible assumption) | (with_reducible refine Below.setCell ?_ ?side _; case side => first | (with_reducible exact Nat.le_refl _) | (simp; done) | (simp only [World.size_alloc, World.size_setCell, World.size_drew, World.heap_drewN] at *; omega)) | (with_reducible refine below_alloc ?_ _) | (with_reducible refine Below.drew ?_) | (with_reducible refine below_drewN ?_) | (with_reducible refine below_via (by assumption) ?_)))))).mono ?_
  rintro e w7 ⟨rfl, b⟩
  have c_ := below_via b (by (repeat (first | (with_reducible exact Below.refl _ _) | (with_reducible assumption) | (with_reducible refine Below.setCell ?_ ?side _; case side => first | (with_reducible exact Nat.le_refl _) | (simp; done) | (simp only [World.size_alloc, World.size_setCell, World.size_drew, World.heap_drewN] at *; omega)) | (with_reducible refine below_alloc ?_ _) | (with_reducible refine Below.drew ?_) | (with_reducible refine below_drewN ?_) | (with_reducible refine below_via (by assumption) ?_))) : Below w6.heap.size w6 _)
  replace s1 := range_keep s1 c_ l1
  replace x1 := FS.keep x1 c_
  replace l1 := Nat.lt_of_lt_of_le l1 c_.size
  replace s2 := range_keep s2 c_ l2
  replace x2 := FS.keep x2 c_
  replace l2 := Nat.lt_of_lt_of_le l2 c_.size
  replace BW := below_via c_ BW
  clear b c_
  go_wp2_with (first | ((show Go.wpList _ _ _ ((Go.Oper.mk _ (Go.Op.load 74 _) _ _ _ _) :: _) _ _); refine wpList_load_mid rfl 74 _ rfl p2 0 rfl (WC a2 k c2) _ s2 Try.underlying74 rfl infoWorld ?_) | ((show Go.wpList _ _ _ ((Go.Oper.mk _ (Go.Op.load 74 _) _ _ _ _) :: _) _ _); refine wpList_load_mid rfl 74 _ rfl p1 0 rfl (WC a k c) _ s1 Try.underlying74 rfl infoWorld ?_))
  refine (heldWorld_z a2 k c2 xs2 _ (FS.keep x2 (by (repeat (first | (with_reducible exact Below.refl _ _) | (with_reducible assumption) | (with_reducible refine Below.setCell ?_ ?side _; case side => first | (with_reducible exact Nat.le_refl _) | (simp; done) | (simp only [World.size_alloc, World.size_setCell, World.size_drew, World.heap_drewN] at *; omega)) | (with_reducible refine below_alloc ?_ _) | (with_reducible refine Below.drew ?_) | (with_reducible refine below_drewN ?_) | (with_reducible refine below_via (by assumption) ?_)))))).mono ?_
  rintro e w8 ⟨rfl, b⟩
  have c_ := below_via b (by (repeat (first | (with_reducible exact Below.refl _ _) | (with_reducible assumption) | (with_reducible refine Below.setCell ?_ ?side _; case side => first | (with_reducible exact Nat.le_refl _) | (simp; done) | (simp only [World.size_alloc, World.size_setCell, World.size_drew, World.heap_drewN] at *; omega)) | (with_reducible refine below_alloc ?_ _) | (with_reducible refine Below.drew ?_) | (with_reducible refine below_drewN ?_) | (with_reducible refine below_via (by assumption) ?_))) : Below w7.heap.size w7 _)
  replace s1 := range_keep s1 c_ l1
  replace x1 := FS.keep x1 c_
  replace l1 := Nat.lt_of_lt_of_le l1 c_.size
  replace s2 := range_keep s2 c_ l2
  replace x2 := FS.keep x2 c_
  replace l2 := Nat.lt_of_lt_of_le l2 c_.size
  replace BW := below_via c_ BW
  clear b c_
  go_wp2_with (first | ((show Go.wpList _ _ _ ((Go.Oper.mk _ (Go.Op.load 74 _) _ _ _ _) :: _) _ _); refine wpList_load_mid rfl 74 _ rfl p2 0 rfl (WC a2 k c2) _ s2 Try.underlying74 rfl infoWorld ?_) | ((show Go.wpList _ _ _ ((Go.Oper.mk _ (Go.Op.load 74 _) _ _ _ _) :: _) _ _); refine wpList_load_mid rfl 74 _ rfl p1 0 rfl (WC a k c) _ s1 Try.underlying74 rfl infoWorld ?_))
  refine bodyPost_ret (by simp only [results, Try.results8]; go_simp; rfl) rfl ?_
  exact ⟨rfl, by (repeat (first | (with_reducible exact Below.refl _ _) | (with_reducible assumption) | (with_reducible refine Below.setCell ?_ ?side _; case side => first | (with_reducible exact Nat.le_refl _) | (simp; done) | (simp only [World.size_alloc, World.size_setCell, World.size_drew, World.heap_drewN] at *; omega)) | (with_reducible refine below_alloc ?_ _) | (with_reducible refine Below.drew ?_) | (with_reducible refine below_drewN ?_) | (with_reducible refine below_via (by assumption) ?_)))⟩

end Go.Proofs.Ytegnlijgjcfmlaa
