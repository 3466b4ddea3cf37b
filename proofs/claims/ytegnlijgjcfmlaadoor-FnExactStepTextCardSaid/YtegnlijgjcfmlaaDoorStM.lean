/- Steps: the laws own copy. -/
import Derived.Test.YtegnlijgjcfmlaaDoorStL
import Derived.Test.YtegnlijgjcfmlaaDoorRow
namespace Go.Proofs.YtegnlijgjcfmlaaDoor
open Go.RowKit
set_option linter.unusedVariables false
set_option linter.unusedSimpArgs false

theorem infoEv : (Tryd.prog.info? 63).map (·.size) = some 7 := by kernel_rfl
theorem infoRu : (Tryd.prog.info? 64).map (·.size) = some 5 := by kernel_rfl
theorem infoSt : (Tryd.prog.info? 66).map (·.size) = some 14 := by kernel_rfl
theorem loadStep (w : World) (b : Nat) (cs : List Value) (h : w.rangeAt b 0 cs) (hl : cs.length = 14) : (loadVar 66 ⟨b, 0, none⟩).run Tryd.prog w = .ok (.agg cs.toArray) w :=
  run_loadVar_mid w b 0 _ cs _ h Tryd.underlying66 rfl (by rw [hl]; exact infoSt)

set_option maxRecDepth 100000 in
set_option maxHeartbeats 3200000 in
theorem toStep_any (kd k key ch too amt fee : Int) (yes : Bool) (a : Option Addr) (len cap : Nat) (lo hi st mn mx : Int) (xs : List Int) (w : World) (S0 : IS w w.heap.size a len xs) (hlen : len ≤ 1048576) : Calls Tryd.prog 31 #[.agg #[.int .i64 kd, .int .i64 k, .int .i64 key, .int .i64 ch, .int .i64 too, .int .i64 amt, .int .i64 fee, .bool yes, .slice a len cap, .int .i64 lo, .int .i64 hi, .int .i64 st, .int .i64 mn, .int .i64 mx]] w fun e w' =>
    (∃ a' c', e = .returned (.agg #[.int .i64 kd, .int .i64 k, .int .i64 key, .int .i64 ch, .int .i64 too, .int .i64 amt, .int .i64 fee, .bool yes, .slice a' len c', .int .i64 lo, .int .i64 hi, .int .i64 st, .int .i64 mn, .int .i64 mx]) ∧ IS w' w'.heap.size a' len xs) ∧ Below w.heap.size w w' := by
  obtain ⟨H, hH⟩ : ∃ H, H = w.heap.size := ⟨_, rfl⟩
  have HH := Lib.hid hH
  have R0 := Row.new w #[.int .i64 kd, .int .i64 k, .int .i64 key, .int .i64 ch, .int .i64 too, .int .i64 amt, .int .i64 fee, .bool yes, .slice a len cap, .int .i64 lo, .int .i64 hi, .int .i64 st, .int .i64 mn, .int .i64 mx] 60
  have R1 := Row.new (w.alloc (.cells #[.int .i64 kd, .int .i64 k, .int .i64 key, .int .i64 ch, .int .i64 too, .int .i64 amt, .int .i64 fee, .bool yes, .slice a len cap, .int .i64 lo, .int .i64 hi, .int .i64 st, .int .i64 mn, .int .i64 mx] 60)) #[.int .i64 0, .int .i64 0, .int .i64 0, .int .i64 0, .int .i64 0, .int .i64 0, .int .i64 0, .bool false, .slice none 0 0, .int .i64 0, .int .i64 0, .int .i64 0, .int .i64 0, .int .i64 0] 66
  have R2 := Row.new ((w.alloc (.cells #[.int .i64 kd, .int .i64 k, .int .i64 key, .int .i64 ch, .int .i64 too, .int .i64 amt, .int .i64 fee, .bool yes, .slice a len cap, .int .i64 lo, .int .i64 hi, .int .i64 st, .int .i64 mn, .int .i64 mx] 60)).alloc (.cells #[.int .i64 0, .int .i64 0, .int .i64 0, .int .i64 0, .int .i64 0, .int .i64 0, .int .i64 0, .bool false, .slice none 0 0, .int .i64 0, .int .i64 0, .int .i64 0, .int .i64 0, .int .i64 0] 66)) #[.int .i64 kd, .int .i64 0, .int .i64 0, .int .i64 0, .int .i64 0, .int .i64 0, .int .i64 0, .bool false, .slice none 0 0, .int .i64 0, .int .i64 0, .int .i64 0, .int .i64 0, .int .i64 0] 66
  replace R0 := Lib.hid ((R0.keep (by simp) (below_alloc (Below.refl _ _) (.cells #[.int .i64 0, .int .i64 0, .int .i64 0, .int .i64 0, .int .i64 0, .int .i64 0, .int .i64 0, .bool false, .slice none 0 0, .int .i64 0, .int .i64 0, .int .i64 0, .int .i64 0, .int .i64 0] 66))).keep (by simp) (below_alloc (Below.refl _ _) (.cells #[.int .i64 kd, .int .i64 0, .int .i64 0, .int .i64 0, .int .i64 0, .int .i64 0, .int .i64 0, .bool false, .slice none 0 0, .int .i64 0, .int .i64 0, .int .i64 0, .int .i64 0, .int .i64 0] 66)))
  replace R1 := Lib.hid (R1.keep (by simp) (below_alloc (Below.refl _ _) (.cells #[.int .i64 kd, .int .i64 0, .int .i64 0, .int .i64 0, .int .i64 0, .int .i64 0, .int .i64 0, .bool false, .slice none 0 0, .int .i64 0, .int .i64 0, .int .i64 0, .int .i64 0, .int .i64 0] 66)))
  replace R2 := Lib.hid R2
  clear hH
  go_enter Tryd.func31, Tryd.ntmps31
  go_wp2_with fail
  refine (toEvent_any _ _ _ _ _ _ _ _).mono ?_
  rintro e w1 ⟨rfl, b1⟩
  have B1 := below_via b1 (by (repeat (first | (with_reducible exact Below.refl _ _) | (with_reducible assumption) | (with_reducible refine Below.setCell ?_ ?side _; case side => first | (with_reducible exact Nat.le_refl _) | (simp; done) | (simp only [World.size_alloc, World.size_setCell, World.size_drew, World.heap_drewN] at *; omega)) | (with_reducible refine below_alloc ?_ _) | (with_reducible refine Below.drew ?_) | (with_reducible refine below_drewN ?_) | (with_reducible refine below_via (by assumption) ?_))) : Below w.heap.size w _)
  have z1 : w.heap.size + 2 < w1.heap.size := by have := b1.size; simp at this; omega
  replace R0 := Row.keep R0.out (by simp) b1
  replace R1 := Row.keep R1.out (by simp) b1
  replace R2 := Row.keep R2.out (by simp) b1
  simp only [World.size_alloc] at R0 R1 R2
  have T2 := R2.there 1 7 (by simp)
  have B1x := belowSet (by omega : w.heap.size ≤ w.heap.size + 1 + 1) [.int .i64 k, .int .i64 key, .int .i64 ch, .int .i64 too, .int .i64 amt, .int .i64 fee, .bool yes] w1 1 B1
  have z1x := size_setCells (w.heap.size + 1 + 1) [.int .i64 k, .int .i64 key, .int .i64 ch, .int .i64 too, .int .i64 amt, .int .i64 fee, .bool yes] 1 w1
  replace R0 := R0.other (b' := w.heap.size + 1 + 1) (by omega) 1 [.int .i64 k, .int .i64 key, .int .i64 ch, .int .i64 too, .int .i64 amt, .int .i64 fee, .bool yes]
  replace R1 := Lib.hid (R1.other (b' := w.heap.size + 1 + 1) (by omega) 1 [.int .i64 k, .int .i64 key, .int .i64 ch, .int .i64 too, .int .i64 amt, .int .i64 fee, .bool yes])
  replace R2 : Row (w.heap.size + 1 + 1) [.int .i64 kd, .int .i64 k, .int .i64 key, .int .i64 ch, .int .i64 too, .int .i64 amt, .int .i64 fee, .bool yes, .slice none 0 0, .int .i64 0, .int .i64 0, .int .i64 0, .int .i64 0, .int .i64 0] (w1.setCells (w.heap.size + 1 + 1) 1 [.int .i64 k, .int .i64 key, .int .i64 ch, .int .i64 too, .int .i64 amt, .int .i64 fee, .bool yes]) := R2.put 1 [.int .i64 k, .int .i64 key, .int .i64 ch, .int .i64 too, .int .i64 amt, .int .i64 fee, .bool yes] (by simp)
  obtain ⟨X1, hX1⟩ : ∃ X, X = w1.setCells (w.heap.size + 1 + 1) 1 [.int .i64 k, .int .i64 key, .int .i64 ch, .int .i64 too, .int .i64 amt, .int .i64 fee, .bool yes] := ⟨_, rfl⟩
  rw [← hX1] at R0 R1 R2 B1x z1x
  replace hX1 := Lib.hid hX1
  have e08 := R0.cell 8 _ rfl
  replace R0 := Lib.hid R0
  replace R2 := Lib.hid R2
  clear b1 B1
  go_wp2_with (first | ((show Go.wpList _ _ _ ((Go.Oper.mk _ (Go.Op.fieldAddr _ _ _) _ _ _ _) :: (Go.Oper.mk _ (Go.Op.store 63 _ _) _ _ _ _) :: _) _ _); refine wpList_plain rfl fun K hK => ?_; go_simp; refine hK _ _ ?_; clear hK) | ((show Go.wpList _ _ _ ((Go.Oper.mk _ (Go.Op.store 63 _ _) _ _ _ _) :: _) _ _); refine wpList_store_mid rfl 63 _ _ rfl (w.heap.size + 1 + 1) 1 #[.int .i64 k, .int .i64 key, .int .i64 ch, .int .i64 too, .int .i64 amt, .int .i64 fee, .bool yes] rfl rfl T2 infoEv (all_oneCell_toArray (by simp [Value.oneCell'])) ?_; rw [show World.setCells w1 (w.heap.size + 1 + 1) 1 (List.toArray [.int .i64 k, .int .i64 key, .int .i64 ch, .int .i64 too, .int .i64 amt, .int .i64 fee, .bool yes]).toList = X1 from hX1.out.symm]))
  refine (toIntS_any _ _ _ xs _ (S0.keep B1x) hlen).mono ?_
  rintro e w2 ⟨⟨a2, c2, rfl, o2⟩, b2⟩
  have B2 := below_via b2 B1x
  have z2 := b2.size
  have o3 := Lib.hid (OI.keepG o2 (grown_setCell w2 (w.heap.size + 1 + 1) 8 (.slice a2 len c2)) (fun p hp => by have := OI.ge o2 p hp; omega))
  have hge : Hid (∀ p, a2 = some p → w.heap.size + 1 + 1 < p.block) := fun p hp => by have := OI.ge o2 p hp; omega
  clear o2 e08 T2
  replace R0 := Row.keep R0.out (by simp) b2
  replace R1 := Row.keep R1.out (by simp) b2
  replace R2 := Row.keep R2.out (by simp) b2
  clear b2
  have e28 := R2.cell 8 _ rfl
  have f28 := R2.fr 8 (by simp)
  replace R2 : Row (w.heap.size + 1 + 1) [.int .i64 kd, .int .i64 k, .int .i64 key, .int .i64 ch, .int .i64 too, .int .i64 amt, .int .i64 fee, .bool yes, .slice a2 len c2, .int .i64 0, .int .i64 0, .int .i64 0, .int .i64 0, .int .i64 0] (w2.setCell ⟨w.heap.size + 1 + 1, 8, none⟩ (.slice a2 len c2)) := R2.put 8 [.slice a2 len c2] (by simp)
  replace R1 := Lib.hid (R1.other (b' := w.heap.size + 1 + 1) (by omega) 8 [.slice a2 len c2])
  have e9 := R0.cell 9 _ rfl
  have e10 := R0.cell 10 _ rfl
  have e11 := R0.cell 11 _ rfl
  have e12 := R0.cell 12 _ rfl
  have e13 := R0.cell 13 _ rfl
  have B2x := Below.setCell B2 (by show w.heap.size ≤ w.heap.size + 1 + 1; omega : w.heap.size ≤ (⟨w.heap.size + 1 + 1, 8, none⟩ : Addr).block) (.slice a2 len c2)
  have R2 := Lib.hid R2
  clear B2 R0
  go_wp2_with fail
  refine (toRule_any _ _ _ _ _ _).mono ?_
  rintro e w3 ⟨rfl, b3⟩
  have B3 := below_via b3 B2x
  have o4 := OI.keep o3.out b3
  replace R1 := Row.keep R1.out (by simp) b3
  replace R2 := Row.keep R2.out (by simp) b3
  have z3 := b3.size
  have hr2 := R2.lt (by simp)
  clear b3 e28 f28 e9 e10 e11 e12 e13 o3
  have T3 := R2.there 9 5 (by simp)
  replace R2 : Row (w.heap.size + 1 + 1) [.int .i64 kd, .int .i64 k, .int .i64 key, .int .i64 ch, .int .i64 too, .int .i64 amt, .int .i64 fee, .bool yes, .slice a2 len c2, .int .i64 lo, .int .i64 hi, .int .i64 st, .int .i64 mn, .int .i64 mx] (w3.setCells (w.heap.size + 1 + 1) 9 [.int .i64 lo, .int .i64 hi, .int .i64 st, .int .i64 mn, .int .i64 mx]) := R2.put 9 [.int .i64 lo, .int .i64 hi, .int .i64 st, .int .i64 mn, .int .i64 mx] (by simp)
  replace R1 := R1.other (b' := w.heap.size + 1 + 1) (by omega) 9 [.int .i64 lo, .int .i64 hi, .int .i64 st, .int .i64 mn, .int .i64 mx]
  have B3x := belowSet (by omega : w.heap.size ≤ w.heap.size + 1 + 1) [.int .i64 lo, .int .i64 hi, .int .i64 st, .int .i64 mn, .int .i64 mx] w3 9 B3
  replace o4 := OI.keepG o4 (grown_setCells (w.heap.size + 1 + 1) [.int .i64 lo, .int .i64 hi, .int .i64 st, .int .i64 mn, .int .i64 mx] 9 w3) (fun p hp => by have := hge.out p hp; omega)
  obtain ⟨X3, hX3⟩ : ∃ X, X = w3.setCells (w.heap.size + 1 + 1) 9 [.int .i64 lo, .int .i64 hi, .int .i64 st, .int .i64 mn, .int .i64 mx] := ⟨_, rfl⟩
  rw [← hX3] at R1 R2 B3x o4
  replace hX3 := Lib.hid hX3
  have T4 := R1.there 0 14 (by simp)
  have G2 := R2.range
  have R1 := Lib.hid R1
  have o4 := Lib.hid o4
  go_wp2_with (first
    | ((show Go.wpList _ _ _ ((Go.Oper.mk _ (Go.Op.fieldAddr _ _ _) _ _ _ _) :: (Go.Oper.mk _ (Go.Op.store 64 _ _) _ _ _ _) :: _) _ _); refine wpList_plain rfl fun K hK => ?_; go_simp; refine hK _ _ ?_; clear hK)
    | ((show Go.wpList _ _ _ ((Go.Oper.mk _ (Go.Op.store 64 _ _) _ _ _ _) :: _) _ _); refine wpList_store_mid rfl 64 _ _ rfl (w.heap.size + 1 + 1) 9 #[.int .i64 lo, .int .i64 hi, .int .i64 st, .int .i64 mn, .int .i64 mx] rfl rfl T3 infoRu (all_oneCell_toArray (by simp [Value.oneCell'])) ?_; rw [show World.setCells w3 (w.heap.size + 1 + 1) 9 (List.toArray [.int .i64 lo, .int .i64 hi, .int .i64 st, .int .i64 mn, .int .i64 mx]).toList = X3 from hX3.out.symm])
    | ((show Go.wpList _ _ _ ((Go.Oper.mk _ (Go.Op.load 66 _) _ _ _ _) :: _) _ _); refine wpList_load_mid rfl 66 _ rfl (w.heap.size + 1 + 1) 0 rfl [.int .i64 kd, .int .i64 k, .int .i64 key, .int .i64 ch, .int .i64 too, .int .i64 amt, .int .i64 fee, .bool yes, .slice a2 len c2, .int .i64 lo, .int .i64 hi, .int .i64 st, .int .i64 mn, .int .i64 mx] _ G2 Tryd.underlying66 rfl infoSt ?_)
    | ((show Go.wpList _ _ _ ((Go.Oper.mk _ (Go.Op.store 66 _ _) _ _ _ _) :: _) _ _); refine wpList_store_mid rfl 66 _ _ rfl (w.heap.size + 1) 0 #[.int .i64 kd, .int .i64 k, .int .i64 key, .int .i64 ch, .int .i64 too, .int .i64 amt, .int .i64 fee, .bool yes, .slice a2 len c2, .int .i64 lo, .int .i64 hi, .int .i64 st, .int .i64 mn, .int .i64 mx] rfl rfl T4 infoSt (all_oneCell_toArray (by simp [Value.oneCell'])) ?_))
  have hX := World.rangeAt_setCells_same X3 (w.heap.size + 1) 0 [.int .i64 kd, .int .i64 k, .int .i64 key, .int .i64 ch, .int .i64 too, .int .i64 amt, .int .i64 fee, .bool yes, .slice a2 len c2, .int .i64 lo, .int .i64 hi, .int .i64 st, .int .i64 mn, .int .i64 mx] T4
  have hL := loadStep _ _ _ hX rfl
  have o5 := OI.keepG o4.out (grown_setCells (w.heap.size + 1) [.int .i64 kd, .int .i64 k, .int .i64 key, .int .i64 ch, .int .i64 too, .int .i64 amt, .int .i64 fee, .bool yes, .slice a2 len c2, .int .i64 lo, .int .i64 hi, .int .i64 st, .int .i64 mn, .int .i64 mx] 0 X3) (fun p hp => by have := hge.out p hp; omega)
  have BX := belowSet (by omega : w.heap.size ≤ w.heap.size + 1) [.int .i64 kd, .int .i64 k, .int .i64 key, .int .i64 ch, .int .i64 too, .int .i64 amt, .int .i64 fee, .bool yes, .slice a2 len c2, .int .i64 lo, .int .i64 hi, .int .i64 st, .int .i64 mn, .int .i64 mx] X3 0 B3x
  have O5 := Lib.hid o5
  have BX2 := Lib.hid BX
  clear o4 R1 R2 T3 T4 G2 hX o5 BX B1x B2x B3x B3 hge hr2 z1 z1x z2 z3 S0 hX1 hX3
  refine bodyPost_ret (v := .agg #[.int .i64 kd, .int .i64 k, .int .i64 key, .int .i64 ch, .int .i64 too, .int .i64 amt, .int .i64 fee, .bool yes, .slice a2 len c2, .int .i64 lo, .int .i64 hi, .int .i64 st, .int .i64 mn, .int .i64 mx]) (by simp only [results, Tryd.results31, Act.put, List.setIfInBounds_toArray, List.set_cons_zero, List.set_cons_succ]; simp [hL, asAddr]) rfl ?_
  exact ⟨⟨a2, c2, rfl, OI.is O5.out⟩, BX2.out⟩

end Go.Proofs.YtegnlijgjcfmlaaDoor
