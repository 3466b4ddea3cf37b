/- Worlds copied: the parts. -/
import Derived.Test.YtafbdbefmlgioaaGreatDoorWO
import Derived.Deep.DeepCutAuto
namespace Go.Proofs.YtafbdbefmlgioaaGreatDoor
open Go.RowKit
set_option linter.unusedVariables false
set_option linter.unusedSimpArgs false

set_option maxRecDepth 100000 in
set_option maxHeartbeats 12800000 in
theorem toDisk_any (v0 v1 : Value) (d : Dk) (w : World) (V : DkV w w.heap.size v0 v1 d) (hB : DkB d) : Calls Tryz.prog 26 #[.agg #[v0, v1]] w fun e w' => (∃ (F : List Nat) (u0 u1 : Value), e = .returned (.agg #[u0, u1]) ∧ DkO F w' w.heap.size u0 u1 d) ∧ Below w.heap.size w w' := by
  go_enter Tryz.func26, Tryz.ntmps26
  go_upto_region 2 with fail
  have hP : Bx (((w.alloc (.cells #[v0, v1] 25)).alloc (.cells #[.slice none 0 0, .slice none 0 0] 47)).alloc (.cells #[.slice none 0 0, .slice none 0 0] 47)) w.heap.size [v0, v1] := ((Bx.new _ _ _ [v0, v1] rfl (by exact Nat.zero_lt_succ _) _ rfl).alloc _).alloc _
  have hR : Bx (((w.alloc (.cells #[v0, v1] 25)).alloc (.cells #[.slice none 0 0, .slice none 0 0] 47)).alloc (.cells #[.slice none 0 0, .slice none 0 0] 47)) (w.heap.size + 1) [.slice none 0 0, .slice none 0 0] := (Bx.new _ _ _ [.slice none 0 0, .slice none 0 0] rfl (by exact Nat.zero_lt_succ _) _ (by simp)).alloc _
  have hO : Bx (((w.alloc (.cells #[v0, v1] 25)).alloc (.cells #[.slice none 0 0, .slice none 0 0] 47)).alloc (.cells #[.slice none 0 0, .slice none 0 0] 47)) (w.heap.size + 1 + 1) [.slice none 0 0, .slice none 0 0] := Bx.new _ _ _ [.slice none 0 0, .slice none 0 0] rfl (by exact Nat.zero_lt_succ _) _ (by simp)
  have BX : Below w.heap.size w (((w.alloc (.cells #[v0, v1] 25)).alloc (.cells #[.slice none 0 0, .slice none 0 0] 47)).alloc (.cells #[.slice none 0 0, .slice none 0 0] 47)) := by (repeat (first | (with_reducible exact Below.refl _ _) | (with_reducible assumption) | (with_reducible refine Below.setCell ?_ ?side _; case side => first | (with_reducible exact Nat.le_refl _) | (simp; done) | (simp only [World.size_alloc, World.size_setCell, World.size_drew, World.heap_drewN] at *; omega)) | (with_reducible refine below_alloc ?_ _) | (with_reducible refine Below.drew ?_) | (with_reducible refine below_drewN ?_) | (with_reducible refine below_via (by assumption) ?_)))
  have ZX : (((w.alloc (.cells #[v0, v1] 25)).alloc (.cells #[.slice none 0 0, .slice none 0 0] 47)).alloc (.cells #[.slice none 0 0, .slice none 0 0] 47)).heap.size = w.heap.size + 3 := by simp
  generalize ((w.alloc (.cells #[v0, v1] 25)).alloc (.cells #[.slice none 0 0, .slice none 0 0] 47)).alloc (.cells #[.slice none 0 0, .slice none 0 0] 47) = X0 at hP hR hO BX ZX ⊢
  have hs : X0.heap.size ≤ X0.heap.size := Nat.le_refl _
  have p1 := hP.cell 0 (v0) rfl
  go_wp2_with fail
  refine (toCellS_o _ d.cells X0 (V.cells.keep BX) hB.1.1 hB.1.2).mono ?_
  rintro e w1 ⟨⟨F1, u0, rfl, ho1⟩, hb⟩
  have hl := ho1.lt
  replace ho1 := ho1.le hs
  clear p1
  have hnd := ho1.nd
  replace hP := hP.keep hb
  replace hR := hR.keep hb
  replace hO := hO.keep hb
  replace hs := Nat.le_trans hs hb.size
  replace BX := below_via hb BX
  clear hb hl
  obtain ⟨a10, n10, k10, rfl⟩ := ho1.form
  have o1 := hO.cell 0 (.slice none 0 0) rfl
  have q1 := hO.fz 0 (by exact Nat.le_of_ble_eq_true rfl)
  go_upto_region 3 with fail
  clear o1 q1
  have hPx : Bx (w1.setCell ⟨(w.heap.size + 1 + 1), 0, none⟩ (.slice a10 n10 k10)) w.heap.size [v0, v1] := hP.other (w.heap.size + 1 + 1) 0 [(.slice a10 n10 k10)] (by omega)
  have h2x : Bx (w1.setCell ⟨(w.heap.size + 1 + 1), 0, none⟩ (.slice a10 n10 k10)) (w.heap.size + 1) [.slice none 0 0, .slice none 0 0] := hR.other (w.heap.size + 1 + 1) 0 [(.slice a10 n10 k10)] (by omega)
  have h3x : Bx (w1.setCell ⟨(w.heap.size + 1 + 1), 0, none⟩ (.slice a10 n10 k10)) (w.heap.size + 1 + 1) (putL [.slice none 0 0, .slice none 0 0] 0 [(.slice a10 n10 k10)]) := hO.set 0 [(.slice a10 n10 k10)] (by exact Nat.le_of_ble_eq_true rfl)
  have exx : Ex [(w.heap.size + 1 + 1)] w1 (w1.setCell ⟨(w.heap.size + 1 + 1), 0, none⟩ (.slice a10 n10 k10)) := ex_setCells (by simp) [(.slice a10 n10 k10)] _ _ _ (Ex.refl _ _)
  have BXx : Below w.heap.size w (w1.setCell ⟨(w.heap.size + 1 + 1), 0, none⟩ (.slice a10 n10 k10)) := below_setCells2 (by omega) [(.slice a10 n10 k10)] _ _ BX
  have ZXx : (w1.setCell ⟨(w.heap.size + 1 + 1), 0, none⟩ (.slice a10 n10 k10)).heap.size = w1.heap.size := size_setCells2 [(.slice a10 n10 k10)] _ _ _
  generalize (w1.setCell ⟨(w.heap.size + 1 + 1), 0, none⟩ (.slice a10 n10 k10)) = X1 at hPx h2x h3x exx BXx ZXx ⊢
  replace hP := hPx
  replace hR := h2x
  replace hO : Bx X1 (w.heap.size + 1 + 1) [(.slice a10 n10 k10), .slice none 0 0] := h3x
  replace BX := BXx
  replace hs : X0.heap.size ≤ X1.heap.size := by rw [ZXx]; exact hs
  clear hPx h2x h3x BXx ZXx
  replace ho1 := ho1.kept exx (fun k hk hm => by have := (ho1.lt k hk).1; simp only [List.mem_cons, List.not_mem_nil, or_false] at hm; omega)
  clear exx
  have p2 := hP.cell 1 (v1) rfl
  go_wp2_with fail
  refine (toWriteS_o _ d.dirty X1 (V.dirty.keep BX) hB.2.1 hB.2.2).mono ?_
  rintro e w2 ⟨⟨F2, u1, rfl, ho2⟩, hb⟩
  have hl := ho2.lt
  replace ho2 := ho2.le hs
  clear p2
  replace hnd := nodup_fresh hnd ho2.nd (n := X1.heap.size) (fun k hk => by
    exact (ho1.lt k hk).2) (fun k hk => (hl k hk).1)
  replace ho1 := ho1.keep hb
  replace hP := hP.keep hb
  replace hR := hR.keep hb
  replace hO := hO.keep hb
  replace hs := Nat.le_trans hs hb.size
  replace BX := below_via hb BX
  clear hb hl
  obtain ⟨a20, n20, k20, rfl⟩ := ho2.form
  have o2 := hO.cell 1 (.slice none 0 0) rfl
  have q2 := hO.fz 1 (by exact Nat.le_of_ble_eq_true rfl)
  go_upto_region 4 with fail
  clear o2 q2
  have hPx : Bx (w2.setCell ⟨(w.heap.size + 1 + 1), 1, none⟩ (.slice a20 n20 k20)) w.heap.size [v0, v1] := hP.other (w.heap.size + 1 + 1) 1 [(.slice a20 n20 k20)] (by omega)
  have h2x : Bx (w2.setCell ⟨(w.heap.size + 1 + 1), 1, none⟩ (.slice a20 n20 k20)) (w.heap.size + 1) [.slice none 0 0, .slice none 0 0] := hR.other (w.heap.size + 1 + 1) 1 [(.slice a20 n20 k20)] (by omega)
  have h3x : Bx (w2.setCell ⟨(w.heap.size + 1 + 1), 1, none⟩ (.slice a20 n20 k20)) (w.heap.size + 1 + 1) (putL [(.slice a10 n10 k10), .slice none 0 0] 1 [(.slice a20 n20 k20)]) := hO.set 1 [(.slice a20 n20 k20)] (by exact Nat.le_of_ble_eq_true rfl)
  have exx : Ex [(w.heap.size + 1 + 1)] w2 (w2.setCell ⟨(w.heap.size + 1 + 1), 1, none⟩ (.slice a20 n20 k20)) := ex_setCells (by simp) [(.slice a20 n20 k20)] _ _ _ (Ex.refl _ _)
  have BXx : Below w.heap.size w (w2.setCell ⟨(w.heap.size + 1 + 1), 1, none⟩ (.slice a20 n20 k20)) := below_setCells2 (by omega) [(.slice a20 n20 k20)] _ _ BX
  have ZXx : (w2.setCell ⟨(w.heap.size + 1 + 1), 1, none⟩ (.slice a20 n20 k20)).heap.size = w2.heap.size := size_setCells2 [(.slice a20 n20 k20)] _ _ _
  generalize (w2.setCell ⟨(w.heap.size + 1 + 1), 1, none⟩ (.slice a20 n20 k20)) = X2 at hPx h2x h3x exx BXx ZXx ⊢
  replace hP := hPx
  replace hR := h2x
  replace hO : Bx X2 (w.heap.size + 1 + 1) [(.slice a10 n10 k10), (.slice a20 n20 k20)] := h3x
  replace BX := BXx
  replace hs : X0.heap.size ≤ X2.heap.size := by rw [ZXx]; exact hs
  clear hPx h2x h3x BXx ZXx
  replace ho1 := ho1.kept exx (fun k hk hm => by have := (ho1.lt k hk).1; simp only [List.mem_cons, List.not_mem_nil, or_false] at hm; omega)
  replace ho2 := ho2.kept exx (fun k hk hm => by have := (ho2.lt k hk).1; simp only [List.mem_cons, List.not_mem_nil, or_false] at hm; omega)
  clear exx
  go_wp2_with (first
    | ((show Go.wpList _ _ _ ((Go.Oper.mk _ (Go.Op.load 47 _) _ _ _ _) :: _) _ _); refine wpList_load_row unDisk infDisk rfl _ rfl _ _ rfl [(.slice a10 n10 k10), (.slice a20 n20 k20)] (hO.range 0 [(.slice a10 n10 k10), (.slice a20 n20 k20)] rfl) rfl ?_)
    | ((show Go.wpList _ _ _ ((Go.Oper.mk _ (Go.Op.store 47 _ _) _ _ _ _) :: _) _ _); refine wpList_store_row infDisk rfl _ _ rfl (w.heap.size + 1) 0 [(.slice a10 n10 k10), (.slice a20 n20 k20)] rfl rfl (hR.there 0 2 (by exact Nat.le_of_ble_eq_true rfl)) rfl (by intro v hv; simp only [List.mem_cons, List.not_mem_nil, or_false] at hv; rcases hv with rfl | rfl <;> rfl) ?_; have hPx : Bx (X2.setCells (w.heap.size + 1) 0 [(.slice a10 n10 k10), (.slice a20 n20 k20)]) w.heap.size [v0, v1] := hP.other (w.heap.size + 1) 0 [(.slice a10 n10 k10), (.slice a20 n20 k20)] (by omega); have h2x : Bx (X2.setCells (w.heap.size + 1) 0 [(.slice a10 n10 k10), (.slice a20 n20 k20)]) (w.heap.size + 1 + 1) [(.slice a10 n10 k10), (.slice a20 n20 k20)] := hO.other (w.heap.size + 1) 0 [(.slice a10 n10 k10), (.slice a20 n20 k20)] (by omega); have h3x : Bx (X2.setCells (w.heap.size + 1) 0 [(.slice a10 n10 k10), (.slice a20 n20 k20)]) (w.heap.size + 1) (putL [.slice none 0 0, .slice none 0 0] 0 [(.slice a10 n10 k10), (.slice a20 n20 k20)]) := hR.set 0 [(.slice a10 n10 k10), (.slice a20 n20 k20)] (by exact Nat.le_of_ble_eq_true rfl); have exx : Ex [(w.heap.size + 1)] X2 (X2.setCells (w.heap.size + 1) 0 [(.slice a10 n10 k10), (.slice a20 n20 k20)]) := ex_setCells (by simp) [(.slice a10 n10 k10), (.slice a20 n20 k20)] _ _ _ (Ex.refl _ _); have BXx : Below w.heap.size w (X2.setCells (w.heap.size + 1) 0 [(.slice a10 n10 k10), (.slice a20 n20 k20)]) := below_setCells2 (by omega) [(.slice a10 n10 k10), (.slice a20 n20 k20)] _ _ BX; have ZXx : (X2.setCells (w.heap.size + 1) 0 [(.slice a10 n10 k10), (.slice a20 n20 k20)]).heap.size = X2.heap.size := size_setCells2 [(.slice a10 n10 k10), (.slice a20 n20 k20)] _ _ _; generalize (X2.setCells (w.heap.size + 1) 0 [(.slice a10 n10 k10), (.slice a20 n20 k20)]) = XF at hPx h2x h3x exx BXx ZXx ⊢))
  replace hP := hPx
  replace hO := h2x
  replace hR : Bx XF (w.heap.size + 1) [(.slice a10 n10 k10), (.slice a20 n20 k20)] := h3x
  replace BX := BXx
  replace hs : X0.heap.size ≤ XF.heap.size := by rw [ZXx]; exact hs
  clear hPx h2x h3x BXx ZXx
  replace ho1 := ho1.kept exx (fun k hk hm => by have := (ho1.lt k hk).1; simp only [List.mem_cons, List.not_mem_nil, or_false] at hm; omega)
  replace ho2 := ho2.kept exx (fun k hk hm => by have := (ho2.lt k hk).1; simp only [List.mem_cons, List.not_mem_nil, or_false] at hm; omega)
  clear exx
  have hL := run_load_row unDisk infDisk hR rfl
  refine bodyPost_ret (v := .agg #[(.slice a10 n10 k10), (.slice a20 n20 k20)]) (by simp only [results, Tryz.results26]; simp [Act.put, hL, asAddr]) rfl ?_
  have hX : w.heap.size ≤ X0.heap.size := by omega
  replace ho1 := ho1.le hX
  replace ho2 := ho2.le hX
  exact ⟨⟨_, _, _, rfl, DkO.of ho1 ho2 hnd⟩, BX⟩

set_option maxRecDepth 100000 in
set_option maxHeartbeats 12800000 in
theorem toLog_any (v0 v1 : Value) (l : Lo) (w : World) (V : LoV w w.heap.size v0 v1 l) (hB : DkB l.disk) : Calls Tryz.prog 60 #[.agg #[v0, v1, .int .i64 l.next, .int .i64 l.epoch]] w fun e w' => (∃ (F : List Nat) (u0 u1 : Value), e = .returned (.agg #[u0, u1, .int .i64 l.next, .int .i64 l.epoch]) ∧ LoO F w' w.heap.size u0 u1 l) ∧ Below w.heap.size w w' := by
  go_enter Tryz.func60, Tryz.ntmps60
  go_upto_region 2 with fail
  have hP : Bx (((w.alloc (.cells #[v0, v1, .int .i64 l.next, .int .i64 l.epoch] 27)).alloc (.cells #[.slice none 0 0, .slice none 0 0, .int .i64 0, .int .i64 0] 49)).alloc (.cells #[.slice none 0 0, .slice none 0 0, .int .i64 0, .int .i64 0] 49)) w.heap.size [v0, v1, .int .i64 l.next, .int .i64 l.epoch] := ((Bx.new _ _ _ [v0, v1, .int .i64 l.next, .int .i64 l.epoch] rfl (by exact Nat.zero_lt_succ _) _ rfl).alloc _).alloc _
  have hR : Bx (((w.alloc (.cells #[v0, v1, .int .i64 l.next, .int .i64 l.epoch] 27)).alloc (.cells #[.slice none 0 0, .slice none 0 0, .int .i64 0, .int .i64 0] 49)).alloc (.cells #[.slice none 0 0, .slice none 0 0, .int .i64 0, .int .i64 0] 49)) (w.heap.size + 1) [.slice none 0 0, .slice none 0 0, .int .i64 0, .int .i64 0] := (Bx.new _ _ _ [.slice none 0 0, .slice none 0 0, .int .i64 0, .int .i64 0] rfl (by exact Nat.zero_lt_succ _) _ (by simp)).alloc _
  have hO : Bx (((w.alloc (.cells #[v0, v1, .int .i64 l.next, .int .i64 l.epoch] 27)).alloc (.cells #[.slice none 0 0, .slice none 0 0, .int .i64 0, .int .i64 0] 49)).alloc (.cells #[.slice none 0 0, .slice none 0 0, .int .i64 0, .int .i64 0] 49)) (w.heap.size + 1 + 1) [.slice none 0 0, .slice none 0 0, .int .i64 0, .int .i64 0] := Bx.new _ _ _ [.slice none 0 0, .slice none 0 0, .int .i64 0, .int .i64 0] rfl (by exact Nat.zero_lt_succ _) _ (by simp)
  have BX : Below w.heap.size w (((w.alloc (.cells #[v0, v1, .int .i64 l.next, .int .i64 l.epoch] 27)).alloc (.cells #[.slice none 0 0, .slice none 0 0, .int .i64 0, .int .i64 0] 49)).alloc (.cells #[.slice none 0 0, .slice none 0 0, .int .i64 0, .int .i64 0] 49)) := by (repeat (first | (with_reducible exact Below.refl _ _) | (with_reducible assumption) | (with_reducible refine Below.setCell ?_ ?side _; case side => first | (with_reducible exact Nat.le_refl _) | (simp; done) | (simp only [World.size_alloc, World.size_setCell, World.size_drew, World.heap_drewN] at *; omega)) | (with_reducible refine below_alloc ?_ _) | (with_reducible refine Below.drew ?_) | (with_reducible refine below_drewN ?_) | (with_reducible refine below_via (by assumption) ?_)))
  have ZX : (((w.alloc (.cells #[v0, v1, .int .i64 l.next, .int .i64 l.epoch] 27)).alloc (.cells #[.slice none 0 0, .slice none 0 0, .int .i64 0, .int .i64 0] 49)).alloc (.cells #[.slice none 0 0, .slice none 0 0, .int .i64 0, .int .i64 0] 49)).heap.size = w.heap.size + 3 := by simp
  generalize ((w.alloc (.cells #[v0, v1, .int .i64 l.next, .int .i64 l.epoch] 27)).alloc (.cells #[.slice none 0 0, .slice none 0 0, .int .i64 0, .int .i64 0] 49)).alloc (.cells #[.slice none 0 0, .slice none 0 0, .int .i64 0, .int .i64 0] 49) = X0 at hP hR hO BX ZX ⊢
  have hs : X0.heap.size ≤ X0.heap.size := Nat.le_refl _
  go_wp2_with ((show Go.wpList _ _ _ ((Go.Oper.mk _ (Go.Op.load 25 _) _ _ _ _) :: _) _ _); refine wpList_load_row unLDisk infLDisk rfl _ rfl _ _ rfl [v0, v1] (hP.range 0 [v0, v1] rfl) rfl ?_)
  refine (toDisk_any _ _ l.disk X0 (V.disk.keep BX) hB).mono ?_
  rintro e w1 ⟨⟨F1, u0, u1, rfl, ho1⟩, hb⟩
  have hl := ho1.lt
  replace ho1 := ho1.le hs
  have hnd := ho1.nd
  replace hP := hP.keep hb
  replace hR := hR.keep hb
  replace hO := hO.keep hb
  replace hs := Nat.le_trans hs hb.size
  replace BX := below_via hb BX
  clear hb hl
  obtain ⟨⟨a10, n10, k10, rfl⟩, ⟨a11, n11, k11, rfl⟩⟩ := ho1.form
  go_upto_region 3 with ((show Go.wpList _ _ _ ((Go.Oper.mk _ (Go.Op.store 47 _ _) _ _ _ _) :: _) _ _); refine wpList_store_row infDisk rfl _ _ rfl (w.heap.size + 1 + 1) 0 [(.slice a10 n10 k10), (.slice a11 n11 k11)] rfl rfl (hO.there 0 2 (by exact Nat.le_of_ble_eq_true rfl)) rfl (by intro v hv; simp only [List.mem_cons, List.not_mem_nil, or_false] at hv; rcases hv with rfl | rfl <;> rfl) ?_; have hPx : Bx (w1.setCells (w.heap.size + 1 + 1) 0 [(.slice a10 n10 k10), (.slice a11 n11 k11)]) w.heap.size [v0, v1, .int .i64 l.next, .int .i64 l.epoch] := hP.other (w.heap.size + 1 + 1) 0 [(.slice a10 n10 k10), (.slice a11 n11 k11)] (by omega); have h2x : Bx (w1.setCells (w.heap.size + 1 + 1) 0 [(.slice a10 n10 k10), (.slice a11 n11 k11)]) (w.heap.size + 1) [.slice none 0 0, .slice none 0 0, .int .i64 0, .int .i64 0] := hR.other (w.heap.size + 1 + 1) 0 [(.slice a10 n10 k10), (.slice a11 n11 k11)] (by omega); have h3x : Bx (w1.setCells (w.heap.size + 1 + 1) 0 [(.slice a10 n10 k10), (.slice a11 n11 k11)]) (w.heap.size + 1 + 1) (putL [.slice none 0 0, .slice none 0 0, .int .i64 0, .int .i64 0] 0 [(.slice a10 n10 k10), (.slice a11 n11 k11)]) := hO.set 0 [(.slice a10 n10 k10), (.slice a11 n11 k11)] (by exact Nat.le_of_ble_eq_true rfl); have exx : Ex [(w.heap.size + 1 + 1)] w1 (w1.setCells (w.heap.size + 1 + 1) 0 [(.slice a10 n10 k10), (.slice a11 n11 k11)]) := ex_setCells (by simp) [(.slice a10 n10 k10), (.slice a11 n11 k11)] _ _ _ (Ex.refl _ _); have BXx : Below w.heap.size w (w1.setCells (w.heap.size + 1 + 1) 0 [(.slice a10 n10 k10), (.slice a11 n11 k11)]) := below_setCells2 (by omega) [(.slice a10 n10 k10), (.slice a11 n11 k11)] _ _ BX; have ZXx : (w1.setCells (w.heap.size + 1 + 1) 0 [(.slice a10 n10 k10), (.slice a11 n11 k11)]).heap.size = w1.heap.size := size_setCells2 [(.slice a10 n10 k10), (.slice a11 n11 k11)] _ _ _; generalize (w1.setCells (w.heap.size + 1 + 1) 0 [(.slice a10 n10 k10), (.slice a11 n11 k11)]) = X1 at hPx h2x h3x exx BXx ZXx ⊢)
  replace hP := hPx
  replace hR := h2x
  replace hO : Bx X1 (w.heap.size + 1 + 1) [(.slice a10 n10 k10), (.slice a11 n11 k11), .int .i64 0, .int .i64 0] := h3x
  replace BX := BXx
  replace hs : X0.heap.size ≤ X1.heap.size := by rw [ZXx]; exact hs
  clear hPx h2x h3x BXx ZXx
  replace ho1 := ho1.kept exx (fun k hk hm => by have := (ho1.lt k hk).1; simp only [List.mem_cons, List.not_mem_nil, or_false] at hm; omega)
  clear exx
  have p2 := hP.cell 2 (.int .i64 l.next) rfl
  have o2 := hO.cell 2 (.int .i64 0) rfl
  have q2 := hO.fz 2 (by exact Nat.le_of_ble_eq_true rfl)
  go_upto_region 4 with fail
  clear p2 o2 q2
  have hPx : Bx (X1.setCell ⟨(w.heap.size + 1 + 1), 2, none⟩ (.int .i64 l.next)) w.heap.size [v0, v1, .int .i64 l.next, .int .i64 l.epoch] := hP.other (w.heap.size + 1 + 1) 2 [.int .i64 l.next] (by omega)
  have h2x : Bx (X1.setCell ⟨(w.heap.size + 1 + 1), 2, none⟩ (.int .i64 l.next)) (w.heap.size + 1) [.slice none 0 0, .slice none 0 0, .int .i64 0, .int .i64 0] := hR.other (w.heap.size + 1 + 1) 2 [.int .i64 l.next] (by omega)
  have h3x : Bx (X1.setCell ⟨(w.heap.size + 1 + 1), 2, none⟩ (.int .i64 l.next)) (w.heap.size + 1 + 1) (putL [(.slice a10 n10 k10), (.slice a11 n11 k11), .int .i64 0, .int .i64 0] 2 [.int .i64 l.next]) := hO.set 2 [.int .i64 l.next] (by exact Nat.le_of_ble_eq_true rfl)
  have exx : Ex [(w.heap.size + 1 + 1)] X1 (X1.setCell ⟨(w.heap.size + 1 + 1), 2, none⟩ (.int .i64 l.next)) := ex_setCells (by simp) [.int .i64 l.next] _ _ _ (Ex.refl _ _)
  have BXx : Below w.heap.size w (X1.setCell ⟨(w.heap.size + 1 + 1), 2, none⟩ (.int .i64 l.next)) := below_setCells2 (by omega) [.int .i64 l.next] _ _ BX
  have ZXx : (X1.setCell ⟨(w.heap.size + 1 + 1), 2, none⟩ (.int .i64 l.next)).heap.size = X1.heap.size := size_setCells2 [.int .i64 l.next] _ _ _
  generalize (X1.setCell ⟨(w.heap.size + 1 + 1), 2, none⟩ (.int .i64 l.next)) = X2 at hPx h2x h3x exx BXx ZXx ⊢
  replace hP := hPx
  replace hR := h2x
  replace hO : Bx X2 (w.heap.size + 1 + 1) [(.slice a10 n10 k10), (.slice a11 n11 k11), .int .i64 l.next, .int .i64 0] := h3x
  replace BX := BXx
  replace hs : X0.heap.size ≤ X2.heap.size := by rw [ZXx]; exact hs
  clear hPx h2x h3x BXx ZXx
  replace ho1 := ho1.kept exx (fun k hk hm => by have := (ho1.lt k hk).1; simp only [List.mem_cons, List.not_mem_nil, or_false] at hm; omega)
  clear exx
  have p3 := hP.cell 3 (.int .i64 l.epoch) rfl
  have o3 := hO.cell 3 (.int .i64 0) rfl
  have q3 := hO.fz 3 (by exact Nat.le_of_ble_eq_true rfl)
  go_upto_region 5 with fail
  clear p3 o3 q3
  have hPx : Bx (X2.setCell ⟨(w.heap.size + 1 + 1), 3, none⟩ (.int .i64 l.epoch)) w.heap.size [v0, v1, .int .i64 l.next, .int .i64 l.epoch] := hP.other (w.heap.size + 1 + 1) 3 [.int .i64 l.epoch] (by omega)
  have h2x : Bx (X2.setCell ⟨(w.heap.size + 1 + 1), 3, none⟩ (.int .i64 l.epoch)) (w.heap.size + 1) [.slice none 0 0, .slice none 0 0, .int .i64 0, .int .i64 0] := hR.other (w.heap.size + 1 + 1) 3 [.int .i64 l.epoch] (by omega)
  have h3x : Bx (X2.setCell ⟨(w.heap.size + 1 + 1), 3, none⟩ (.int .i64 l.epoch)) (w.heap.size + 1 + 1) (putL [(.slice a10 n10 k10), (.slice a11 n11 k11), .int .i64 l.next, .int .i64 0] 3 [.int .i64 l.epoch]) := hO.set 3 [.int .i64 l.epoch] (by exact Nat.le_of_ble_eq_true rfl)
  have exx : Ex [(w.heap.size + 1 + 1)] X2 (X2.setCell ⟨(w.heap.size + 1 + 1), 3, none⟩ (.int .i64 l.epoch)) := ex_setCells (by simp) [.int .i64 l.epoch] _ _ _ (Ex.refl _ _)
  have BXx : Below w.heap.size w (X2.setCell ⟨(w.heap.size + 1 + 1), 3, none⟩ (.int .i64 l.epoch)) := below_setCells2 (by omega) [.int .i64 l.epoch] _ _ BX
  have ZXx : (X2.setCell ⟨(w.heap.size + 1 + 1), 3, none⟩ (.int .i64 l.epoch)).heap.size = X2.heap.size := size_setCells2 [.int .i64 l.epoch] _ _ _
  generalize (X2.setCell ⟨(w.heap.size + 1 + 1), 3, none⟩ (.int .i64 l.epoch)) = X3 at hPx h2x h3x exx BXx ZXx ⊢
  replace hP := hPx
  replace hR := h2x
  replace hO : Bx X3 (w.heap.size + 1 + 1) [(.slice a10 n10 k10), (.slice a11 n11 k11), .int .i64 l.next, .int .i64 l.epoch] := h3x
  replace BX := BXx
  replace hs : X0.heap.size ≤ X3.heap.size := by rw [ZXx]; exact hs
  clear hPx h2x h3x BXx ZXx
  replace ho1 := ho1.kept exx (fun k hk hm => by have := (ho1.lt k hk).1; simp only [List.mem_cons, List.not_mem_nil, or_false] at hm; omega)
  clear exx
  go_wp2_with (first
    | ((show Go.wpList _ _ _ ((Go.Oper.mk _ (Go.Op.load 49 _) _ _ _ _) :: _) _ _); refine wpList_load_row unLog infLog rfl _ rfl _ _ rfl [(.slice a10 n10 k10), (.slice a11 n11 k11), .int .i64 l.next, .int .i64 l.epoch] (hO.range 0 [(.slice a10 n10 k10), (.slice a11 n11 k11), .int .i64 l.next, .int .i64 l.epoch] rfl) rfl ?_)
    | ((show Go.wpList _ _ _ ((Go.Oper.mk _ (Go.Op.store 49 _ _) _ _ _ _) :: _) _ _); refine wpList_store_row infLog rfl _ _ rfl (w.heap.size + 1) 0 [(.slice a10 n10 k10), (.slice a11 n11 k11), .int .i64 l.next, .int .i64 l.epoch] rfl rfl (hR.there 0 4 (by exact Nat.le_of_ble_eq_true rfl)) rfl (by intro v hv; simp only [List.mem_cons, List.not_mem_nil, or_false] at hv; rcases hv with rfl | rfl | rfl | rfl <;> rfl) ?_; have hPx : Bx (X3.setCells (w.heap.size + 1) 0 [(.slice a10 n10 k10), (.slice a11 n11 k11), .int .i64 l.next, .int .i64 l.epoch]) w.heap.size [v0, v1, .int .i64 l.next, .int .i64 l.epoch] := hP.other (w.heap.size + 1) 0 [(.slice a10 n10 k10), (.slice a11 n11 k11), .int .i64 l.next, .int .i64 l.epoch] (by omega); have h2x : Bx (X3.setCells (w.heap.size + 1) 0 [(.slice a10 n10 k10), (.slice a11 n11 k11), .int .i64 l.next, .int .i64 l.epoch]) (w.heap.size + 1 + 1) [(.slice a10 n10 k10), (.slice a11 n11 k11), .int .i64 l.next, .int .i64 l.epoch] := hO.other (w.heap.size + 1) 0 [(.slice a10 n10 k10), (.slice a11 n11 k11), .int .i64 l.next, .int .i64 l.epoch] (by omega); have h3x : Bx (X3.setCells (w.heap.size + 1) 0 [(.slice a10 n10 k10), (.slice a11 n11 k11), .int .i64 l.next, .int .i64 l.epoch]) (w.heap.size + 1) (putL [.slice none 0 0, .slice none 0 0, .int .i64 0, .int .i64 0] 0 [(.slice a10 n10 k10), (.slice a11 n11 k11), .int .i64 l.next, .int .i64 l.epoch]) := hR.set 0 [(.slice a10 n10 k10), (.slice a11 n11 k11), .int .i64 l.next, .int .i64 l.epoch] (by exact Nat.le_of_ble_eq_true rfl); have exx : Ex [(w.heap.size + 1)] X3 (X3.setCells (w.heap.size + 1) 0 [(.slice a10 n10 k10), (.slice a11 n11 k11), .int .i64 l.next, .int .i64 l.epoch]) := ex_setCells (by simp) [(.slice a10 n10 k10), (.slice a11 n11 k11), .int .i64 l.next, .int .i64 l.epoch] _ _ _ (Ex.refl _ _); have BXx : Below w.heap.size w (X3.setCells (w.heap.size + 1) 0 [(.slice a10 n10 k10), (.slice a11 n11 k11), .int .i64 l.next, .int .i64 l.epoch]) := below_setCells2 (by omega) [(.slice a10 n10 k10), (.slice a11 n11 k11), .int .i64 l.next, .int .i64 l.epoch] _ _ BX; have ZXx : (X3.setCells (w.heap.size + 1) 0 [(.slice a10 n10 k10), (.slice a11 n11 k11), .int .i64 l.next, .int .i64 l.epoch]).heap.size = X3.heap.size := size_setCells2 [(.slice a10 n10 k10), (.slice a11 n11 k11), .int .i64 l.next, .int .i64 l.epoch] _ _ _; generalize (X3.setCells (w.heap.size + 1) 0 [(.slice a10 n10 k10), (.slice a11 n11 k11), .int .i64 l.next, .int .i64 l.epoch]) = XF at hPx h2x h3x exx BXx ZXx ⊢))
  replace hP := hPx
  replace hO := h2x
  replace hR : Bx XF (w.heap.size + 1) [(.slice a10 n10 k10), (.slice a11 n11 k11), .int .i64 l.next, .int .i64 l.epoch] := h3x
  replace BX := BXx
  replace hs : X0.heap.size ≤ XF.heap.size := by rw [ZXx]; exact hs
  clear hPx h2x h3x BXx ZXx
  replace ho1 := ho1.kept exx (fun k hk hm => by have := (ho1.lt k hk).1; simp only [List.mem_cons, List.not_mem_nil, or_false] at hm; omega)
  clear exx
  have hL := run_load_row unLog infLog hR rfl
  refine bodyPost_ret (v := .agg #[(.slice a10 n10 k10), (.slice a11 n11 k11), .int .i64 l.next, .int .i64 l.epoch]) (by simp only [results, Tryz.results60]; simp [Act.put, hL, asAddr]) rfl ?_
  have hX : w.heap.size ≤ X0.heap.size := by omega
  replace ho1 := ho1.le hX
  exact ⟨⟨_, _, _, rfl, ⟨_, ho1, rfl, hnd, V.ints⟩⟩, BX⟩

set_option maxRecDepth 100000 in
set_option maxHeartbeats 12800000 in
theorem toBook_any (x y z : Value) (b : Bk) (w : World) (V : BkV w w.heap.size x y z b) (hB : BkB b) : Calls Tryz.prog 61 #[.agg #[.int .i64 b.tick, .int .i64 b.next, .int .i64 b.wallet, x, y, z]] w fun e w' => (∃ (F : List Nat) (u0 u1 u2 : Value), e = .returned (.agg #[.int .i64 b.tick, .int .i64 b.next, .int .i64 b.wallet, u0, u1, u2]) ∧ BkO F w' w.heap.size u0 u1 u2 b) ∧ Below w.heap.size w w' := by
  go_enter Tryz.func61, Tryz.ntmps61
  go_upto_region 5 with fail
  have hP : Bx (((w.alloc (.cells #[.int .i64 b.tick, .int .i64 b.next, .int .i64 b.wallet, x, y, z] 32)).alloc (.cells #[.int .i64 0, .int .i64 0, .int .i64 0, .slice none 0 0, .slice none 0 0, .slice none 0 0] 54)).alloc (.cells #[.int .i64 b.tick, .int .i64 b.next, .int .i64 b.wallet, .slice none 0 0, .slice none 0 0, .slice none 0 0] 54)) w.heap.size [.int .i64 b.tick, .int .i64 b.next, .int .i64 b.wallet, x, y, z] := ((Bx.new _ _ _ [.int .i64 b.tick, .int .i64 b.next, .int .i64 b.wallet, x, y, z] rfl (by exact Nat.zero_lt_succ _) _ rfl).alloc _).alloc _
  have hR : Bx (((w.alloc (.cells #[.int .i64 b.tick, .int .i64 b.next, .int .i64 b.wallet, x, y, z] 32)).alloc (.cells #[.int .i64 0, .int .i64 0, .int .i64 0, .slice none 0 0, .slice none 0 0, .slice none 0 0] 54)).alloc (.cells #[.int .i64 b.tick, .int .i64 b.next, .int .i64 b.wallet, .slice none 0 0, .slice none 0 0, .slice none 0 0] 54)) (w.heap.size + 1) [.int .i64 0, .int .i64 0, .int .i64 0, .slice none 0 0, .slice none 0 0, .slice none 0 0] := (Bx.new _ _ _ [.int .i64 0, .int .i64 0, .int .i64 0, .slice none 0 0, .slice none 0 0, .slice none 0 0] rfl (by exact Nat.zero_lt_succ _) _ (by simp)).alloc _
  have hO : Bx (((w.alloc (.cells #[.int .i64 b.tick, .int .i64 b.next, .int .i64 b.wallet, x, y, z] 32)).alloc (.cells #[.int .i64 0, .int .i64 0, .int .i64 0, .slice none 0 0, .slice none 0 0, .slice none 0 0] 54)).alloc (.cells #[.int .i64 b.tick, .int .i64 b.next, .int .i64 b.wallet, .slice none 0 0, .slice none 0 0, .slice none 0 0] 54)) (w.heap.size + 1 + 1) [.int .i64 b.tick, .int .i64 b.next, .int .i64 b.wallet, .slice none 0 0, .slice none 0 0, .slice none 0 0] := Bx.new _ _ _ [.int .i64 b.tick, .int .i64 b.next, .int .i64 b.wallet, .slice none 0 0, .slice none 0 0, .slice none 0 0] rfl (by exact Nat.zero_lt_succ _) _ (by simp)
  have BX : Below w.heap.size w (((w.alloc (.cells #[.int .i64 b.tick, .int .i64 b.next, .int .i64 b.wallet, x, y, z] 32)).alloc (.cells #[.int .i64 0, .int .i64 0, .int .i64 0, .slice none 0 0, .slice none 0 0, .slice none 0 0] 54)).alloc (.cells #[.int .i64 b.tick, .int .i64 b.next, .int .i64 b.wallet, .slice none 0 0, .slice none 0 0, .slice none 0 0] 54)) := by (repeat (first | (with_reducible exact Below.refl _ _) | (with_reducible assumption) | (with_reducible refine Below.setCell ?_ ?side _; case side => first | (with_reducible exact Nat.le_refl _) | (simp; done) | (simp only [World.size_alloc, World.size_setCell, World.size_drew, World.heap_drewN] at *; omega)) | (with_reducible refine below_alloc ?_ _) | (with_reducible refine Below.drew ?_) | (with_reducible refine below_drewN ?_) | (with_reducible refine below_via (by assumption) ?_)))
  have ZX : (((w.alloc (.cells #[.int .i64 b.tick, .int .i64 b.next, .int .i64 b.wallet, x, y, z] 32)).alloc (.cells #[.int .i64 0, .int .i64 0, .int .i64 0, .slice none 0 0, .slice none 0 0, .slice none 0 0] 54)).alloc (.cells #[.int .i64 b.tick, .int .i64 b.next, .int .i64 b.wallet, .slice none 0 0, .slice none 0 0, .slice none 0 0] 54)).heap.size = w.heap.size + 3 := by simp
  generalize ((w.alloc (.cells #[.int .i64 b.tick, .int .i64 b.next, .int .i64 b.wallet, x, y, z] 32)).alloc (.cells #[.int .i64 0, .int .i64 0, .int .i64 0, .slice none 0 0, .slice none 0 0, .slice none 0 0] 54)).alloc (.cells #[.int .i64 b.tick, .int .i64 b.next, .int .i64 b.wallet, .slice none 0 0, .slice none 0 0, .slice none 0 0] 54) = X0 at hP hR hO BX ZX ⊢
  have hs : X0.heap.size ≤ X0.heap.size := Nat.le_refl _
  have p1 := hP.cell 3 (x) rfl
  go_wp2_with fail
  refine (toChanS_o _ b.chans X0 (V.chans.keep BX) hB.1).mono ?_
  rintro e w1 ⟨⟨F1, u0, rfl, ho1⟩, hb⟩
  have hl := ho1.lt
  replace ho1 := ho1.le hs
  clear p1
  have hnd := ho1.nd
  replace hP := hP.keep hb
  replace hR := hR.keep hb
  replace hO := hO.keep hb
  replace hs := Nat.le_trans hs hb.size
  replace BX := below_via hb BX
  clear hb hl
  obtain ⟨a10, n10, k10, rfl⟩ := ho1.form
  have o1 := hO.cell 3 (.slice none 0 0) rfl
  have q1 := hO.fz 3 (by exact Nat.le_of_ble_eq_true rfl)
  go_upto_region 6 with fail
  clear o1 q1
  have hPx : Bx (w1.setCell ⟨(w.heap.size + 1 + 1), 3, none⟩ (.slice a10 n10 k10)) w.heap.size [.int .i64 b.tick, .int .i64 b.next, .int .i64 b.wallet, x, y, z] := hP.other (w.heap.size + 1 + 1) 3 [(.slice a10 n10 k10)] (by omega)
  have h2x : Bx (w1.setCell ⟨(w.heap.size + 1 + 1), 3, none⟩ (.slice a10 n10 k10)) (w.heap.size + 1) [.int .i64 0, .int .i64 0, .int .i64 0, .slice none 0 0, .slice none 0 0, .slice none 0 0] := hR.other (w.heap.size + 1 + 1) 3 [(.slice a10 n10 k10)] (by omega)
  have h3x : Bx (w1.setCell ⟨(w.heap.size + 1 + 1), 3, none⟩ (.slice a10 n10 k10)) (w.heap.size + 1 + 1) (putL [.int .i64 b.tick, .int .i64 b.next, .int .i64 b.wallet, .slice none 0 0, .slice none 0 0, .slice none 0 0] 3 [(.slice a10 n10 k10)]) := hO.set 3 [(.slice a10 n10 k10)] (by exact Nat.le_of_ble_eq_true rfl)
  have exx : Ex [(w.heap.size + 1 + 1)] w1 (w1.setCell ⟨(w.heap.size + 1 + 1), 3, none⟩ (.slice a10 n10 k10)) := ex_setCells (by simp) [(.slice a10 n10 k10)] _ _ _ (Ex.refl _ _)
  have BXx : Below w.heap.size w (w1.setCell ⟨(w.heap.size + 1 + 1), 3, none⟩ (.slice a10 n10 k10)) := below_setCells2 (by omega) [(.slice a10 n10 k10)] _ _ BX
  have ZXx : (w1.setCell ⟨(w.heap.size + 1 + 1), 3, none⟩ (.slice a10 n10 k10)).heap.size = w1.heap.size := size_setCells2 [(.slice a10 n10 k10)] _ _ _
  generalize (w1.setCell ⟨(w.heap.size + 1 + 1), 3, none⟩ (.slice a10 n10 k10)) = X1 at hPx h2x h3x exx BXx ZXx ⊢
  replace hP := hPx
  replace hR := h2x
  replace hO : Bx X1 (w.heap.size + 1 + 1) [.int .i64 b.tick, .int .i64 b.next, .int .i64 b.wallet, (.slice a10 n10 k10), .slice none 0 0, .slice none 0 0] := h3x
  replace BX := BXx
  replace hs : X0.heap.size ≤ X1.heap.size := by rw [ZXx]; exact hs
  clear hPx h2x h3x BXx ZXx
  replace ho1 := ho1.kept exx (fun k hk hm => by have := (ho1.lt k hk).1; simp only [List.mem_cons, List.not_mem_nil, or_false] at hm; omega)
  clear exx
  have p2 := hP.cell 4 (y) rfl
  go_wp2_with fail
  refine (toHtlcS_o _ b.htlcs X1 (V.htlcs.keep BX) hB.2.1).mono ?_
  rintro e w2 ⟨⟨F2, u1, rfl, ho2⟩, hb⟩
  have hl := ho2.lt
  replace ho2 := ho2.le hs
  clear p2
  replace hnd := nodup_fresh hnd ho2.nd (n := X1.heap.size) (fun k hk => by
    exact (ho1.lt k hk).2) (fun k hk => (hl k hk).1)
  replace ho1 := ho1.keep hb
  replace hP := hP.keep hb
  replace hR := hR.keep hb
  replace hO := hO.keep hb
  replace hs := Nat.le_trans hs hb.size
  replace BX := below_via hb BX
  clear hb hl
  obtain ⟨a20, n20, k20, rfl⟩ := ho2.form
  have o2 := hO.cell 4 (.slice none 0 0) rfl
  have q2 := hO.fz 4 (by exact Nat.le_of_ble_eq_true rfl)
  go_upto_region 7 with fail
  clear o2 q2
  have hPx : Bx (w2.setCell ⟨(w.heap.size + 1 + 1), 4, none⟩ (.slice a20 n20 k20)) w.heap.size [.int .i64 b.tick, .int .i64 b.next, .int .i64 b.wallet, x, y, z] := hP.other (w.heap.size + 1 + 1) 4 [(.slice a20 n20 k20)] (by omega)
  have h2x : Bx (w2.setCell ⟨(w.heap.size + 1 + 1), 4, none⟩ (.slice a20 n20 k20)) (w.heap.size + 1) [.int .i64 0, .int .i64 0, .int .i64 0, .slice none 0 0, .slice none 0 0, .slice none 0 0] := hR.other (w.heap.size + 1 + 1) 4 [(.slice a20 n20 k20)] (by omega)
  have h3x : Bx (w2.setCell ⟨(w.heap.size + 1 + 1), 4, none⟩ (.slice a20 n20 k20)) (w.heap.size + 1 + 1) (putL [.int .i64 b.tick, .int .i64 b.next, .int .i64 b.wallet, (.slice a10 n10 k10), .slice none 0 0, .slice none 0 0] 4 [(.slice a20 n20 k20)]) := hO.set 4 [(.slice a20 n20 k20)] (by exact Nat.le_of_ble_eq_true rfl)
  have exx : Ex [(w.heap.size + 1 + 1)] w2 (w2.setCell ⟨(w.heap.size + 1 + 1), 4, none⟩ (.slice a20 n20 k20)) := ex_setCells (by simp) [(.slice a20 n20 k20)] _ _ _ (Ex.refl _ _)
  have BXx : Below w.heap.size w (w2.setCell ⟨(w.heap.size + 1 + 1), 4, none⟩ (.slice a20 n20 k20)) := below_setCells2 (by omega) [(.slice a20 n20 k20)] _ _ BX
  have ZXx : (w2.setCell ⟨(w.heap.size + 1 + 1), 4, none⟩ (.slice a20 n20 k20)).heap.size = w2.heap.size := size_setCells2 [(.slice a20 n20 k20)] _ _ _
  generalize (w2.setCell ⟨(w.heap.size + 1 + 1), 4, none⟩ (.slice a20 n20 k20)) = X2 at hPx h2x h3x exx BXx ZXx ⊢
  replace hP := hPx
  replace hR := h2x
  replace hO : Bx X2 (w.heap.size + 1 + 1) [.int .i64 b.tick, .int .i64 b.next, .int .i64 b.wallet, (.slice a10 n10 k10), (.slice a20 n20 k20), .slice none 0 0] := h3x
  replace BX := BXx
  replace hs : X0.heap.size ≤ X2.heap.size := by rw [ZXx]; exact hs
  clear hPx h2x h3x BXx ZXx
  replace ho1 := ho1.kept exx (fun k hk hm => by have := (ho1.lt k hk).1; simp only [List.mem_cons, List.not_mem_nil, or_false] at hm; omega)
  replace ho2 := ho2.kept exx (fun k hk hm => by have := (ho2.lt k hk).1; simp only [List.mem_cons, List.not_mem_nil, or_false] at hm; omega)
  clear exx
  have p3 := hP.cell 5 (z) rfl
  go_wp2_with fail
  refine (toCircleS_o _ b.circles X2 (V.circles.keep BX) hB.2.2).mono ?_
  rintro e w3 ⟨⟨F3, u2, rfl, ho3⟩, hb⟩
  have hl := ho3.lt
  replace ho3 := ho3.le hs
  clear p3
  replace hnd := nodup_fresh hnd ho3.nd (n := X2.heap.size) (fun k hk => by
    rcases List.mem_append.1 hk with hk | hk
    rotate_left
    · exact (ho2.lt k hk).2
    exact (ho1.lt k hk).2) (fun k hk => (hl k hk).1)
  replace ho1 := ho1.keep hb
  replace ho2 := ho2.keep hb
  replace hP := hP.keep hb
  replace hR := hR.keep hb
  replace hO := hO.keep hb
  replace hs := Nat.le_trans hs hb.size
  replace BX := below_via hb BX
  clear hb hl
  obtain ⟨a30, n30, k30, rfl⟩ := ho3.form
  have o3 := hO.cell 5 (.slice none 0 0) rfl
  have q3 := hO.fz 5 (by exact Nat.le_of_ble_eq_true rfl)
  go_upto_region 8 with fail
  clear o3 q3
  have hPx : Bx (w3.setCell ⟨(w.heap.size + 1 + 1), 5, none⟩ (.slice a30 n30 k30)) w.heap.size [.int .i64 b.tick, .int .i64 b.next, .int .i64 b.wallet, x, y, z] := hP.other (w.heap.size + 1 + 1) 5 [(.slice a30 n30 k30)] (by omega)
  have h2x : Bx (w3.setCell ⟨(w.heap.size + 1 + 1), 5, none⟩ (.slice a30 n30 k30)) (w.heap.size + 1) [.int .i64 0, .int .i64 0, .int .i64 0, .slice none 0 0, .slice none 0 0, .slice none 0 0] := hR.other (w.heap.size + 1 + 1) 5 [(.slice a30 n30 k30)] (by omega)
  have h3x : Bx (w3.setCell ⟨(w.heap.size + 1 + 1), 5, none⟩ (.slice a30 n30 k30)) (w.heap.size + 1 + 1) (putL [.int .i64 b.tick, .int .i64 b.next, .int .i64 b.wallet, (.slice a10 n10 k10), (.slice a20 n20 k20), .slice none 0 0] 5 [(.slice a30 n30 k30)]) := hO.set 5 [(.slice a30 n30 k30)] (by exact Nat.le_of_ble_eq_true rfl)
  have exx : Ex [(w.heap.size + 1 + 1)] w3 (w3.setCell ⟨(w.heap.size + 1 + 1), 5, none⟩ (.slice a30 n30 k30)) := ex_setCells (by simp) [(.slice a30 n30 k30)] _ _ _ (Ex.refl _ _)
  have BXx : Below w.heap.size w (w3.setCell ⟨(w.heap.size + 1 + 1), 5, none⟩ (.slice a30 n30 k30)) := below_setCells2 (by omega) [(.slice a30 n30 k30)] _ _ BX
  have ZXx : (w3.setCell ⟨(w.heap.size + 1 + 1), 5, none⟩ (.slice a30 n30 k30)).heap.size = w3.heap.size := size_setCells2 [(.slice a30 n30 k30)] _ _ _
  generalize (w3.setCell ⟨(w.heap.size + 1 + 1), 5, none⟩ (.slice a30 n30 k30)) = X3 at hPx h2x h3x exx BXx ZXx ⊢
  replace hP := hPx
  replace hR := h2x
  replace hO : Bx X3 (w.heap.size + 1 + 1) [.int .i64 b.tick, .int .i64 b.next, .int .i64 b.wallet, (.slice a10 n10 k10), (.slice a20 n20 k20), (.slice a30 n30 k30)] := h3x
  replace BX := BXx
  replace hs : X0.heap.size ≤ X3.heap.size := by rw [ZXx]; exact hs
  clear hPx h2x h3x BXx ZXx
  replace ho1 := ho1.kept exx (fun k hk hm => by have := (ho1.lt k hk).1; simp only [List.mem_cons, List.not_mem_nil, or_false] at hm; omega)
  replace ho2 := ho2.kept exx (fun k hk hm => by have := (ho2.lt k hk).1; simp only [List.mem_cons, List.not_mem_nil, or_false] at hm; omega)
  replace ho3 := ho3.kept exx (fun k hk hm => by have := (ho3.lt k hk).1; simp only [List.mem_cons, List.not_mem_nil, or_false] at hm; omega)
  clear exx
  go_wp2_with (first
    | ((show Go.wpList _ _ _ ((Go.Oper.mk _ (Go.Op.load 54 _) _ _ _ _) :: _) _ _); refine wpList_load_row unBook infBook rfl _ rfl _ _ rfl [.int .i64 b.tick, .int .i64 b.next, .int .i64 b.wallet, (.slice a10 n10 k10), (.slice a20 n20 k20), (.slice a30 n30 k30)] (hO.range 0 [.int .i64 b.tick, .int .i64 b.next, .int .i64 b.wallet, (.slice a10 n10 k10), (.slice a20 n20 k20), (.slice a30 n30 k30)] rfl) rfl ?_)
    | ((show Go.wpList _ _ _ ((Go.Oper.mk _ (Go.Op.store 54 _ _) _ _ _ _) :: _) _ _); refine wpList_store_row infBook rfl _ _ rfl (w.heap.size + 1) 0 [.int .i64 b.tick, .int .i64 b.next, .int .i64 b.wallet, (.slice a10 n10 k10), (.slice a20 n20 k20), (.slice a30 n30 k30)] rfl rfl (hR.there 0 6 (by exact Nat.le_of_ble_eq_true rfl)) rfl (by intro v hv; simp only [List.mem_cons, List.not_mem_nil, or_false] at hv; rcases hv with rfl | rfl | rfl | rfl | rfl | rfl <;> rfl) ?_; have hPx : Bx (X3.setCells (w.heap.size + 1) 0 [.int .i64 b.tick, .int .i64 b.next, .int .i64 b.wallet, (.slice a10 n10 k10), (.slice a20 n20 k20), (.slice a30 n30 k30)]) w.heap.size [.int .i64 b.tick, .int .i64 b.next, .int .i64 b.wallet, x, y, z] := hP.other (w.heap.size + 1) 0 [.int .i64 b.tick, .int .i64 b.next, .int .i64 b.wallet, (.slice a10 n10 k10), (.slice a20 n20 k20), (.slice a30 n30 k30)] (by omega); have h2x : Bx (X3.setCells (w.heap.size + 1) 0 [.int .i64 b.tick, .int .i64 b.next, .int .i64 b.wallet, (.slice a10 n10 k10), (.slice a20 n20 k20), (.slice a30 n30 k30)]) (w.heap.size + 1 + 1) [.int .i64 b.tick, .int .i64 b.next, .int .i64 b.wallet, (.slice a10 n10 k10), (.slice a20 n20 k20), (.slice a30 n30 k30)] := hO.other (w.heap.size + 1) 0 [.int .i64 b.tick, .int .i64 b.next, .int .i64 b.wallet, (.slice a10 n10 k10), (.slice a20 n20 k20), (.slice a30 n30 k30)] (by omega); have h3x : Bx (X3.setCells (w.heap.size + 1) 0 [.int .i64 b.tick, .int .i64 b.next, .int .i64 b.wallet, (.slice a10 n10 k10), (.slice a20 n20 k20), (.slice a30 n30 k30)]) (w.heap.size + 1) (putL [.int .i64 0, .int .i64 0, .int .i64 0, .slice none 0 0, .slice none 0 0, .slice none 0 0] 0 [.int .i64 b.tick, .int .i64 b.next, .int .i64 b.wallet, (.slice a10 n10 k10), (.slice a20 n20 k20), (.slice a30 n30 k30)]) := hR.set 0 [.int .i64 b.tick, .int .i64 b.next, .int .i64 b.wallet, (.slice a10 n10 k10), (.slice a20 n20 k20), (.slice a30 n30 k30)] (by exact Nat.le_of_ble_eq_true rfl); have exx : Ex [(w.heap.size + 1)] X3 (X3.setCells (w.heap.size + 1) 0 [.int .i64 b.tick, .int .i64 b.next, .int .i64 b.wallet, (.slice a10 n10 k10), (.slice a20 n20 k20), (.slice a30 n30 k30)]) := ex_setCells (by simp) [.int .i64 b.tick, .int .i64 b.next, .int .i64 b.wallet, (.slice a10 n10 k10), (.slice a20 n20 k20), (.slice a30 n30 k30)] _ _ _ (Ex.refl _ _); have BXx : Below w.heap.size w (X3.setCells (w.heap.size + 1) 0 [.int .i64 b.tick, .int .i64 b.next, .int .i64 b.wallet, (.slice a10 n10 k10), (.slice a20 n20 k20), (.slice a30 n30 k30)]) := below_setCells2 (by omega) [.int .i64 b.tick, .int .i64 b.next, .int .i64 b.wallet, (.slice a10 n10 k10), (.slice a20 n20 k20), (.slice a30 n30 k30)] _ _ BX; have ZXx : (X3.setCells (w.heap.size + 1) 0 [.int .i64 b.tick, .int .i64 b.next, .int .i64 b.wallet, (.slice a10 n10 k10), (.slice a20 n20 k20), (.slice a30 n30 k30)]).heap.size = X3.heap.size := size_setCells2 [.int .i64 b.tick, .int .i64 b.next, .int .i64 b.wallet, (.slice a10 n10 k10), (.slice a20 n20 k20), (.slice a30 n30 k30)] _ _ _; generalize (X3.setCells (w.heap.size + 1) 0 [.int .i64 b.tick, .int .i64 b.next, .int .i64 b.wallet, (.slice a10 n10 k10), (.slice a20 n20 k20), (.slice a30 n30 k30)]) = XF at hPx h2x h3x exx BXx ZXx ⊢))
  replace hP := hPx
  replace hO := h2x
  replace hR : Bx XF (w.heap.size + 1) [.int .i64 b.tick, .int .i64 b.next, .int .i64 b.wallet, (.slice a10 n10 k10), (.slice a20 n20 k20), (.slice a30 n30 k30)] := h3x
  replace BX := BXx
  replace hs : X0.heap.size ≤ XF.heap.size := by rw [ZXx]; exact hs
  clear hPx h2x h3x BXx ZXx
  replace ho1 := ho1.kept exx (fun k hk hm => by have := (ho1.lt k hk).1; simp only [List.mem_cons, List.not_mem_nil, or_false] at hm; omega)
  replace ho2 := ho2.kept exx (fun k hk hm => by have := (ho2.lt k hk).1; simp only [List.mem_cons, List.not_mem_nil, or_false] at hm; omega)
  replace ho3 := ho3.kept exx (fun k hk hm => by have := (ho3.lt k hk).1; simp only [List.mem_cons, List.not_mem_nil, or_false] at hm; omega)
  clear exx
  have hL := run_load_row unBook infBook hR rfl
  refine bodyPost_ret (v := .agg #[.int .i64 b.tick, .int .i64 b.next, .int .i64 b.wallet, (.slice a10 n10 k10), (.slice a20 n20 k20), (.slice a30 n30 k30)]) (by simp only [results, Tryz.results61]; simp [Act.put, hL, asAddr]) rfl ?_
  have hX : w.heap.size ≤ X0.heap.size := by omega
  replace ho1 := ho1.le hX
  replace ho2 := ho2.le hX
  replace ho3 := ho3.le hX
  exact ⟨⟨_, _, _, _, rfl, ⟨_, _, _, ⟨ho1, ho2, ho3⟩, rfl, hnd, V.ints⟩⟩, BX⟩

set_option maxRecDepth 100000 in
set_option maxHeartbeats 12800000 in
theorem toLedger_any (v : Value) (l : Lg) (w : World) (V : LgV w w.heap.size v l) (hB : LgB l) : Calls Tryz.prog 62 #[.agg #[.int .i64 l.last, v]] w fun e w' => (∃ (F : List Nat) (u0 : Value), e = .returned (.agg #[.int .i64 l.last, u0]) ∧ LgO F w' w.heap.size u0 l) ∧ Below w.heap.size w w' := by
  go_enter Tryz.func62, Tryz.ntmps62
  go_upto_region 3 with fail
  have hP : Bx (((w.alloc (.cells #[.int .i64 l.last, v] 35)).alloc (.cells #[.int .i64 0, .slice none 0 0] 57)).alloc (.cells #[.int .i64 l.last, .slice none 0 0] 57)) w.heap.size [.int .i64 l.last, v] := ((Bx.new _ _ _ [.int .i64 l.last, v] rfl (by exact Nat.zero_lt_succ _) _ rfl).alloc _).alloc _
  have hR : Bx (((w.alloc (.cells #[.int .i64 l.last, v] 35)).alloc (.cells #[.int .i64 0, .slice none 0 0] 57)).alloc (.cells #[.int .i64 l.last, .slice none 0 0] 57)) (w.heap.size + 1) [.int .i64 0, .slice none 0 0] := (Bx.new _ _ _ [.int .i64 0, .slice none 0 0] rfl (by exact Nat.zero_lt_succ _) _ (by simp)).alloc _
  have hO : Bx (((w.alloc (.cells #[.int .i64 l.last, v] 35)).alloc (.cells #[.int .i64 0, .slice none 0 0] 57)).alloc (.cells #[.int .i64 l.last, .slice none 0 0] 57)) (w.heap.size + 1 + 1) [.int .i64 l.last, .slice none 0 0] := Bx.new _ _ _ [.int .i64 l.last, .slice none 0 0] rfl (by exact Nat.zero_lt_succ _) _ (by simp)
  have BX : Below w.heap.size w (((w.alloc (.cells #[.int .i64 l.last, v] 35)).alloc (.cells #[.int .i64 0, .slice none 0 0] 57)).alloc (.cells #[.int .i64 l.last, .slice none 0 0] 57)) := by (repeat (first | (with_reducible exact Below.refl _ _) | (with_reducible assumption) | (with_reducible refine Below.setCell ?_ ?side _; case side => first | (with_reducible exact Nat.le_refl _) | (simp; done) | (simp only [World.size_alloc, World.size_setCell, World.size_drew, World.heap_drewN] at *; omega)) | (with_reducible refine below_alloc ?_ _) | (with_reducible refine Below.drew ?_) | (with_reducible refine below_drewN ?_) | (with_reducible refine below_via (by assumption) ?_)))
  have ZX : (((w.alloc (.cells #[.int .i64 l.last, v] 35)).alloc (.cells #[.int .i64 0, .slice none 0 0] 57)).alloc (.cells #[.int .i64 l.last, .slice none 0 0] 57)).heap.size = w.heap.size + 3 := by simp
  generalize ((w.alloc (.cells #[.int .i64 l.last, v] 35)).alloc (.cells #[.int .i64 0, .slice none 0 0] 57)).alloc (.cells #[.int .i64 l.last, .slice none 0 0] 57) = X0 at hP hR hO BX ZX ⊢
  have hs : X0.heap.size ≤ X0.heap.size := Nat.le_refl _
  have p1 := hP.cell 1 (v) rfl
  go_wp2_with fail
  refine (toLineS_o _ l.lines X0 (V.lines.keep BX) hB).mono ?_
  rintro e w1 ⟨⟨F1, u0, rfl, ho1⟩, hb⟩
  have hl := ho1.lt
  replace ho1 := ho1.le hs
  clear p1
  have hnd := ho1.nd
  replace hP := hP.keep hb
  replace hR := hR.keep hb
  replace hO := hO.keep hb
  replace hs := Nat.le_trans hs hb.size
  replace BX := below_via hb BX
  clear hb hl
  obtain ⟨a10, n10, k10, rfl⟩ := ho1.form
  have o1 := hO.cell 1 (.slice none 0 0) rfl
  have q1 := hO.fz 1 (by exact Nat.le_of_ble_eq_true rfl)
  go_upto_region 4 with fail
  clear o1 q1
  have hPx : Bx (w1.setCell ⟨(w.heap.size + 1 + 1), 1, none⟩ (.slice a10 n10 k10)) w.heap.size [.int .i64 l.last, v] := hP.other (w.heap.size + 1 + 1) 1 [(.slice a10 n10 k10)] (by omega)
  have h2x : Bx (w1.setCell ⟨(w.heap.size + 1 + 1), 1, none⟩ (.slice a10 n10 k10)) (w.heap.size + 1) [.int .i64 0, .slice none 0 0] := hR.other (w.heap.size + 1 + 1) 1 [(.slice a10 n10 k10)] (by omega)
  have h3x : Bx (w1.setCell ⟨(w.heap.size + 1 + 1), 1, none⟩ (.slice a10 n10 k10)) (w.heap.size + 1 + 1) (putL [.int .i64 l.last, .slice none 0 0] 1 [(.slice a10 n10 k10)]) := hO.set 1 [(.slice a10 n10 k10)] (by exact Nat.le_of_ble_eq_true rfl)
  have exx : Ex [(w.heap.size + 1 + 1)] w1 (w1.setCell ⟨(w.heap.size + 1 + 1), 1, none⟩ (.slice a10 n10 k10)) := ex_setCells (by simp) [(.slice a10 n10 k10)] _ _ _ (Ex.refl _ _)
  have BXx : Below w.heap.size w (w1.setCell ⟨(w.heap.size + 1 + 1), 1, none⟩ (.slice a10 n10 k10)) := below_setCells2 (by omega) [(.slice a10 n10 k10)] _ _ BX
  have ZXx : (w1.setCell ⟨(w.heap.size + 1 + 1), 1, none⟩ (.slice a10 n10 k10)).heap.size = w1.heap.size := size_setCells2 [(.slice a10 n10 k10)] _ _ _
  generalize (w1.setCell ⟨(w.heap.size + 1 + 1), 1, none⟩ (.slice a10 n10 k10)) = X1 at hPx h2x h3x exx BXx ZXx ⊢
  replace hP := hPx
  replace hR := h2x
  replace hO : Bx X1 (w.heap.size + 1 + 1) [.int .i64 l.last, (.slice a10 n10 k10)] := h3x
  replace BX := BXx
  replace hs : X0.heap.size ≤ X1.heap.size := by rw [ZXx]; exact hs
  clear hPx h2x h3x BXx ZXx
  replace ho1 := ho1.kept exx (fun k hk hm => by have := (ho1.lt k hk).1; simp only [List.mem_cons, List.not_mem_nil, or_false] at hm; omega)
  clear exx
  go_wp2_with (first
    | ((show Go.wpList _ _ _ ((Go.Oper.mk _ (Go.Op.load 57 _) _ _ _ _) :: _) _ _); refine wpList_load_row unLedger infLedger rfl _ rfl _ _ rfl [.int .i64 l.last, (.slice a10 n10 k10)] (hO.range 0 [.int .i64 l.last, (.slice a10 n10 k10)] rfl) rfl ?_)
    | ((show Go.wpList _ _ _ ((Go.Oper.mk _ (Go.Op.store 57 _ _) _ _ _ _) :: _) _ _); refine wpList_store_row infLedger rfl _ _ rfl (w.heap.size + 1) 0 [.int .i64 l.last, (.slice a10 n10 k10)] rfl rfl (hR.there 0 2 (by exact Nat.le_of_ble_eq_true rfl)) rfl (by intro v hv; simp only [List.mem_cons, List.not_mem_nil, or_false] at hv; rcases hv with rfl | rfl <;> rfl) ?_; have hPx : Bx (X1.setCells (w.heap.size + 1) 0 [.int .i64 l.last, (.slice a10 n10 k10)]) w.heap.size [.int .i64 l.last, v] := hP.other (w.heap.size + 1) 0 [.int .i64 l.last, (.slice a10 n10 k10)] (by omega); have h2x : Bx (X1.setCells (w.heap.size + 1) 0 [.int .i64 l.last, (.slice a10 n10 k10)]) (w.heap.size + 1 + 1) [.int .i64 l.last, (.slice a10 n10 k10)] := hO.other (w.heap.size + 1) 0 [.int .i64 l.last, (.slice a10 n10 k10)] (by omega); have h3x : Bx (X1.setCells (w.heap.size + 1) 0 [.int .i64 l.last, (.slice a10 n10 k10)]) (w.heap.size + 1) (putL [.int .i64 0, .slice none 0 0] 0 [.int .i64 l.last, (.slice a10 n10 k10)]) := hR.set 0 [.int .i64 l.last, (.slice a10 n10 k10)] (by exact Nat.le_of_ble_eq_true rfl); have exx : Ex [(w.heap.size + 1)] X1 (X1.setCells (w.heap.size + 1) 0 [.int .i64 l.last, (.slice a10 n10 k10)]) := ex_setCells (by simp) [.int .i64 l.last, (.slice a10 n10 k10)] _ _ _ (Ex.refl _ _); have BXx : Below w.heap.size w (X1.setCells (w.heap.size + 1) 0 [.int .i64 l.last, (.slice a10 n10 k10)]) := below_setCells2 (by omega) [.int .i64 l.last, (.slice a10 n10 k10)] _ _ BX; have ZXx : (X1.setCells (w.heap.size + 1) 0 [.int .i64 l.last, (.slice a10 n10 k10)]).heap.size = X1.heap.size := size_setCells2 [.int .i64 l.last, (.slice a10 n10 k10)] _ _ _; generalize (X1.setCells (w.heap.size + 1) 0 [.int .i64 l.last, (.slice a10 n10 k10)]) = XF at hPx h2x h3x exx BXx ZXx ⊢))
  replace hP := hPx
  replace hO := h2x
  replace hR : Bx XF (w.heap.size + 1) [.int .i64 l.last, (.slice a10 n10 k10)] := h3x
  replace BX := BXx
  replace hs : X0.heap.size ≤ XF.heap.size := by rw [ZXx]; exact hs
  clear hPx h2x h3x BXx ZXx
  replace ho1 := ho1.kept exx (fun k hk hm => by have := (ho1.lt k hk).1; simp only [List.mem_cons, List.not_mem_nil, or_false] at hm; omega)
  clear exx
  have hL := run_load_row unLedger infLedger hR rfl
  refine bodyPost_ret (v := .agg #[.int .i64 l.last, (.slice a10 n10 k10)]) (by simp only [results, Tryz.results62]; simp [Act.put, hL, asAddr]) rfl ?_
  have hX : w.heap.size ≤ X0.heap.size := by omega
  replace ho1 := ho1.le hX
  exact ⟨⟨_, _, rfl, ⟨_, ho1, rfl, hnd, V.int⟩⟩, BX⟩

set_option maxRecDepth 100000 in
set_option maxHeartbeats 12800000 in
theorem toHub_any (c d x y z l p q : Value) (h : Hb) (w : World) (V : HbV w w.heap.size c d x y z l p q h) (hB : HbB h) : Calls Tryz.prog 25 #[.agg #[c, d, .int .i64 h.log.next, .int .i64 h.log.epoch, .int .i64 h.book.tick, .int .i64 h.book.next, .int .i64 h.book.wallet, x, y, z, .int .i64 h.ledger.last, l, p, q]] w fun e w' => (∃ (F : List Nat) (c2 d2 x2 y2 z2 l2 p2 q2 : Value), e = .returned (.agg #[c2, d2, .int .i64 h.log.next, .int .i64 h.log.epoch, .int .i64 h.book.tick, .int .i64 h.book.next, .int .i64 h.book.wallet, x2, y2, z2, .int .i64 h.ledger.last, l2, p2, q2]) ∧ HbO F w' w.heap.size c2 d2 x2 y2 z2 l2 p2 q2 h) ∧ Below w.heap.size w w' := by
  go_enter Tryz.func25, Tryz.ntmps25
  go_upto_region 2 with fail
  have hP : Bx (((w.alloc (.cells #[c, d, .int .i64 h.log.next, .int .i64 h.log.epoch, .int .i64 h.book.tick, .int .i64 h.book.next, .int .i64 h.book.wallet, x, y, z, .int .i64 h.ledger.last, l, p, q] 38)).alloc (.cells #[.slice none 0 0, .slice none 0 0, .int .i64 0, .int .i64 0, .int .i64 0, .int .i64 0, .int .i64 0, .slice none 0 0, .slice none 0 0, .slice none 0 0, .int .i64 0, .slice none 0 0, .slice none 0 0, .slice none 0 0] 60)).alloc (.cells #[.slice none 0 0, .slice none 0 0, .int .i64 0, .int .i64 0, .int .i64 0, .int .i64 0, .int .i64 0, .slice none 0 0, .slice none 0 0, .slice none 0 0, .int .i64 0, .slice none 0 0, .slice none 0 0, .slice none 0 0] 60)) w.heap.size [c, d, .int .i64 h.log.next, .int .i64 h.log.epoch, .int .i64 h.book.tick, .int .i64 h.book.next, .int .i64 h.book.wallet, x, y, z, .int .i64 h.ledger.last, l, p, q] := ((Bx.new _ _ _ [c, d, .int .i64 h.log.next, .int .i64 h.log.epoch, .int .i64 h.book.tick, .int .i64 h.book.next, .int .i64 h.book.wallet, x, y, z, .int .i64 h.ledger.last, l, p, q] rfl (by exact Nat.zero_lt_succ _) _ rfl).alloc _).alloc _
  have hR : Bx (((w.alloc (.cells #[c, d, .int .i64 h.log.next, .int .i64 h.log.epoch, .int .i64 h.book.tick, .int .i64 h.book.next, .int .i64 h.book.wallet, x, y, z, .int .i64 h.ledger.last, l, p, q] 38)).alloc (.cells #[.slice none 0 0, .slice none 0 0, .int .i64 0, .int .i64 0, .int .i64 0, .int .i64 0, .int .i64 0, .slice none 0 0, .slice none 0 0, .slice none 0 0, .int .i64 0, .slice none 0 0, .slice none 0 0, .slice none 0 0] 60)).alloc (.cells #[.slice none 0 0, .slice none 0 0, .int .i64 0, .int .i64 0, .int .i64 0, .int .i64 0, .int .i64 0, .slice none 0 0, .slice none 0 0, .slice none 0 0, .int .i64 0, .slice none 0 0, .slice none 0 0, .slice none 0 0] 60)) (w.heap.size + 1) [.slice none 0 0, .slice none 0 0, .int .i64 0, .int .i64 0, .int .i64 0, .int .i64 0, .int .i64 0, .slice none 0 0, .slice none 0 0, .slice none 0 0, .int .i64 0, .slice none 0 0, .slice none 0 0, .slice none 0 0] := (Bx.new _ _ _ [.slice none 0 0, .slice none 0 0, .int .i64 0, .int .i64 0, .int .i64 0, .int .i64 0, .int .i64 0, .slice none 0 0, .slice none 0 0, .slice none 0 0, .int .i64 0, .slice none 0 0, .slice none 0 0, .slice none 0 0] rfl (by exact Nat.zero_lt_succ _) _ (by simp)).alloc _
  have hO : Bx (((w.alloc (.cells #[c, d, .int .i64 h.log.next, .int .i64 h.log.epoch, .int .i64 h.book.tick, .int .i64 h.book.next, .int .i64 h.book.wallet, x, y, z, .int .i64 h.ledger.last, l, p, q] 38)).alloc (.cells #[.slice none 0 0, .slice none 0 0, .int .i64 0, .int .i64 0, .int .i64 0, .int .i64 0, .int .i64 0, .slice none 0 0, .slice none 0 0, .slice none 0 0, .int .i64 0, .slice none 0 0, .slice none 0 0, .slice none 0 0] 60)).alloc (.cells #[.slice none 0 0, .slice none 0 0, .int .i64 0, .int .i64 0, .int .i64 0, .int .i64 0, .int .i64 0, .slice none 0 0, .slice none 0 0, .slice none 0 0, .int .i64 0, .slice none 0 0, .slice none 0 0, .slice none 0 0] 60)) (w.heap.size + 1 + 1) [.slice none 0 0, .slice none 0 0, .int .i64 0, .int .i64 0, .int .i64 0, .int .i64 0, .int .i64 0, .slice none 0 0, .slice none 0 0, .slice none 0 0, .int .i64 0, .slice none 0 0, .slice none 0 0, .slice none 0 0] := Bx.new _ _ _ [.slice none 0 0, .slice none 0 0, .int .i64 0, .int .i64 0, .int .i64 0, .int .i64 0, .int .i64 0, .slice none 0 0, .slice none 0 0, .slice none 0 0, .int .i64 0, .slice none 0 0, .slice none 0 0, .slice none 0 0] rfl (by exact Nat.zero_lt_succ _) _ (by simp)
  have BX : Below w.heap.size w (((w.alloc (.cells #[c, d, .int .i64 h.log.next, .int .i64 h.log.epoch, .int .i64 h.book.tick, .int .i64 h.book.next, .int .i64 h.book.wallet, x, y, z, .int .i64 h.ledger.last, l, p, q] 38)).alloc (.cells #[.slice none 0 0, .slice none 0 0, .int .i64 0, .int .i64 0, .int .i64 0, .int .i64 0, .int .i64 0, .slice none 0 0, .slice none 0 0, .slice none 0 0, .int .i64 0, .slice none 0 0, .slice none 0 0, .slice none 0 0] 60)).alloc (.cells #[.slice none 0 0, .slice none 0 0, .int .i64 0, .int .i64 0, .int .i64 0, .int .i64 0, .int .i64 0, .slice none 0 0, .slice none 0 0, .slice none 0 0, .int .i64 0, .slice none 0 0, .slice none 0 0, .slice none 0 0] 60)) := by (repeat (first | (with_reducible exact Below.refl _ _) | (with_reducible assumption) | (with_reducible refine Below.setCell ?_ ?side _; case side => first | (with_reducible exact Nat.le_refl _) | (simp; done) | (simp only [World.size_alloc, World.size_setCell, World.size_drew, World.heap_drewN] at *; omega)) | (with_reducible refine below_alloc ?_ _) | (with_reducible refine Below.drew ?_) | (with_reducible refine below_drewN ?_) | (with_reducible refine below_via (by assumption) ?_)))
  have ZX : (((w.alloc (.cells #[c, d, .int .i64 h.log.next, .int .i64 h.log.epoch, .int .i64 h.book.tick, .int .i64 h.book.next, .int .i64 h.book.wallet, x, y, z, .int .i64 h.ledger.last, l, p, q] 38)).alloc (.cells #[.slice none 0 0, .slice none 0 0, .int .i64 0, .int .i64 0, .int .i64 0, .int .i64 0, .int .i64 0, .slice none 0 0, .slice none 0 0, .slice none 0 0, .int .i64 0, .slice none 0 0, .slice none 0 0, .slice none 0 0] 60)).alloc (.cells #[.slice none 0 0, .slice none 0 0, .int .i64 0, .int .i64 0, .int .i64 0, .int .i64 0, .int .i64 0, .slice none 0 0, .slice none 0 0, .slice none 0 0, .int .i64 0, .slice none 0 0, .slice none 0 0, .slice none 0 0] 60)).heap.size = w.heap.size + 3 := by simp
  generalize ((w.alloc (.cells #[c, d, .int .i64 h.log.next, .int .i64 h.log.epoch, .int .i64 h.book.tick, .int .i64 h.book.next, .int .i64 h.book.wallet, x, y, z, .int .i64 h.ledger.last, l, p, q] 38)).alloc (.cells #[.slice none 0 0, .slice none 0 0, .int .i64 0, .int .i64 0, .int .i64 0, .int .i64 0, .int .i64 0, .slice none 0 0, .slice none 0 0, .slice none 0 0, .int .i64 0, .slice none 0 0, .slice none 0 0, .slice none 0 0] 60)).alloc (.cells #[.slice none 0 0, .slice none 0 0, .int .i64 0, .int .i64 0, .int .i64 0, .int .i64 0, .int .i64 0, .slice none 0 0, .slice none 0 0, .slice none 0 0, .int .i64 0, .slice none 0 0, .slice none 0 0, .slice none 0 0] 60) = X0 at hP hR hO BX ZX ⊢
  have hs : X0.heap.size ≤ X0.heap.size := Nat.le_refl _
  go_wp2_with ((show Go.wpList _ _ _ ((Go.Oper.mk _ (Go.Op.load 27 _) _ _ _ _) :: _) _ _); refine wpList_load_row unLLog infLLog rfl _ rfl _ _ rfl [c, d, .int .i64 h.log.next, .int .i64 h.log.epoch] (hP.range 0 [c, d, .int .i64 h.log.next, .int .i64 h.log.epoch] rfl) rfl ?_)
  refine (toLog_any _ _ h.log X0 (V.log.keep BX) hB.1).mono ?_
  rintro e w1 ⟨⟨F1, u0, u1, rfl, ho1⟩, hb⟩
  have hl := ho1.lt
  replace ho1 := ho1.le hs
  have hnd := ho1.nd
  replace hP := hP.keep hb
  replace hR := hR.keep hb
  replace hO := hO.keep hb
  replace hs := Nat.le_trans hs hb.size
  replace BX := below_via hb BX
  clear hb hl
  obtain ⟨⟨a10, n10, k10, rfl⟩, ⟨a11, n11, k11, rfl⟩⟩ := ho1.form
  go_upto_region 3 with ((show Go.wpList _ _ _ ((Go.Oper.mk _ (Go.Op.store 49 _ _) _ _ _ _) :: _) _ _); refine wpList_store_row infLog rfl _ _ rfl (w.heap.size + 1 + 1) 0 [(.slice a10 n10 k10), (.slice a11 n11 k11), .int .i64 h.log.next, .int .i64 h.log.epoch] rfl rfl (hO.there 0 4 (by exact Nat.le_of_ble_eq_true rfl)) rfl (by intro v hv; simp only [List.mem_cons, List.not_mem_nil, or_false] at hv; rcases hv with rfl | rfl | rfl | rfl <;> rfl) ?_; have hPx : Bx (w1.setCells (w.heap.size + 1 + 1) 0 [(.slice a10 n10 k10), (.slice a11 n11 k11), .int .i64 h.log.next, .int .i64 h.log.epoch]) w.heap.size [c, d, .int .i64 h.log.next, .int .i64 h.log.epoch, .int .i64 h.book.tick, .int .i64 h.book.next, .int .i64 h.book.wallet, x, y, z, .int .i64 h.ledger.last, l, p, q] := hP.other (w.heap.size + 1 + 1) 0 [(.slice a10 n10 k10), (.slice a11 n11 k11), .int .i64 h.log.next, .int .i64 h.log.epoch] (by omega); have h2x : Bx (w1.setCells (w.heap.size + 1 + 1) 0 [(.slice a10 n10 k10), (.slice a11 n11 k11), .int .i64 h.log.next, .int .i64 h.log.epoch]) (w.heap.size + 1) [.slice none 0 0, .slice none 0 0, .int .i64 0, .int .i64 0, .int .i64 0, .int .i64 0, .int .i64 0, .slice none 0 0, .slice none 0 0, .slice none 0 0, .int .i64 0, .slice none 0 0, .slice none 0 0, .slice none 0 0] := hR.other (w.heap.size + 1 + 1) 0 [(.slice a10 n10 k10), (.slice a11 n11 k11), .int .i64 h.log.next, .int .i64 h.log.epoch] (by omega); have h3x : Bx (w1.setCells (w.heap.size + 1 + 1) 0 [(.slice a10 n10 k10), (.slice a11 n11 k11), .int .i64 h.log.next, .int .i64 h.log.epoch]) (w.heap.size + 1 + 1) (putL [.slice none 0 0, .slice none 0 0, .int .i64 0, .int .i64 0, .int .i64 0, .int .i64 0, .int .i64 0, .slice none 0 0, .slice none 0 0, .slice none 0 0, .int .i64 0, .slice none 0 0, .slice none 0 0, .slice none 0 0] 0 [(.slice a10 n10 k10), (.slice a11 n11 k11), .int .i64 h.log.next, .int .i64 h.log.epoch]) := hO.set 0 [(.slice a10 n10 k10), (.slice a11 n11 k11), .int .i64 h.log.next, .int .i64 h.log.epoch] (by exact Nat.le_of_ble_eq_true rfl); have exx : Ex [(w.heap.size + 1 + 1)] w1 (w1.setCells (w.heap.size + 1 + 1) 0 [(.slice a10 n10 k10), (.slice a11 n11 k11), .int .i64 h.log.next, .int .i64 h.log.epoch]) := ex_setCells (by simp) [(.slice a10 n10 k10), (.slice a11 n11 k11), .int .i64 h.log.next, .int .i64 h.log.epoch] _ _ _ (Ex.refl _ _); have BXx : Below w.heap.size w (w1.setCells (w.heap.size + 1 + 1) 0 [(.slice a10 n10 k10), (.slice a11 n11 k11), .int .i64 h.log.next, .int .i64 h.log.epoch]) := below_setCells2 (by omega) [(.slice a10 n10 k10), (.slice a11 n11 k11), .int .i64 h.log.next, .int .i64 h.log.epoch] _ _ BX; have ZXx : (w1.setCells (w.heap.size + 1 + 1) 0 [(.slice a10 n10 k10), (.slice a11 n11 k11), .int .i64 h.log.next, .int .i64 h.log.epoch]).heap.size = w1.heap.size := size_setCells2 [(.slice a10 n10 k10), (.slice a11 n11 k11), .int .i64 h.log.next, .int .i64 h.log.epoch] _ _ _; generalize (w1.setCells (w.heap.size + 1 + 1) 0 [(.slice a10 n10 k10), (.slice a11 n11 k11), .int .i64 h.log.next, .int .i64 h.log.epoch]) = X1 at hPx h2x h3x exx BXx ZXx ⊢)
  replace hP := hPx
  replace hR := h2x
  replace hO : Bx X1 (w.heap.size + 1 + 1) [(.slice a10 n10 k10), (.slice a11 n11 k11), .int .i64 h.log.next, .int .i64 h.log.epoch, .int .i64 0, .int .i64 0, .int .i64 0, .slice none 0 0, .slice none 0 0, .slice none 0 0, .int .i64 0, .slice none 0 0, .slice none 0 0, .slice none 0 0] := h3x
  replace BX := BXx
  replace hs : X0.heap.size ≤ X1.heap.size := by rw [ZXx]; exact hs
  clear hPx h2x h3x BXx ZXx
  replace ho1 := ho1.kept exx (fun k hk hm => by have := (ho1.lt k hk).1; simp only [List.mem_cons, List.not_mem_nil, or_false] at hm; omega)
  clear exx
  go_wp2_with ((show Go.wpList _ _ _ ((Go.Oper.mk _ (Go.Op.load 32 _) _ _ _ _) :: _) _ _); refine wpList_load_row unLBook infLBook rfl _ rfl _ _ rfl [.int .i64 h.book.tick, .int .i64 h.book.next, .int .i64 h.book.wallet, x, y, z] (hP.range 4 [.int .i64 h.book.tick, .int .i64 h.book.next, .int .i64 h.book.wallet, x, y, z] rfl) rfl ?_)
  refine (toBook_any _ _ _ h.book X1 (V.book.keep BX) hB.2.1).mono ?_
  rintro e w2 ⟨⟨F2, u0, u1, u2, rfl, ho2⟩, hb⟩
  have hl := ho2.lt
  replace ho2 := ho2.le hs
  replace hnd := nodup_fresh hnd ho2.nd (n := X1.heap.size) (fun k hk => by
    exact (ho1.lt k hk).2) (fun k hk => (hl k hk).1)
  replace ho1 := ho1.keep hb
  replace hP := hP.keep hb
  replace hR := hR.keep hb
  replace hO := hO.keep hb
  replace hs := Nat.le_trans hs hb.size
  replace BX := below_via hb BX
  clear hb hl
  obtain ⟨⟨a20, n20, k20, rfl⟩, ⟨a21, n21, k21, rfl⟩, ⟨a22, n22, k22, rfl⟩⟩ := ho2.form
  go_upto_region 4 with ((show Go.wpList _ _ _ ((Go.Oper.mk _ (Go.Op.store 54 _ _) _ _ _ _) :: _) _ _); refine wpList_store_row infBook rfl _ _ rfl (w.heap.size + 1 + 1) 4 [.int .i64 h.book.tick, .int .i64 h.book.next, .int .i64 h.book.wallet, (.slice a20 n20 k20), (.slice a21 n21 k21), (.slice a22 n22 k22)] rfl rfl (hO.there 4 6 (by exact Nat.le_of_ble_eq_true rfl)) rfl (by intro v hv; simp only [List.mem_cons, List.not_mem_nil, or_false] at hv; rcases hv with rfl | rfl | rfl | rfl | rfl | rfl <;> rfl) ?_; have hPx : Bx (w2.setCells (w.heap.size + 1 + 1) 4 [.int .i64 h.book.tick, .int .i64 h.book.next, .int .i64 h.book.wallet, (.slice a20 n20 k20), (.slice a21 n21 k21), (.slice a22 n22 k22)]) w.heap.size [c, d, .int .i64 h.log.next, .int .i64 h.log.epoch, .int .i64 h.book.tick, .int .i64 h.book.next, .int .i64 h.book.wallet, x, y, z, .int .i64 h.ledger.last, l, p, q] := hP.other (w.heap.size + 1 + 1) 4 [.int .i64 h.book.tick, .int .i64 h.book.next, .int .i64 h.book.wallet, (.slice a20 n20 k20), (.slice a21 n21 k21), (.slice a22 n22 k22)] (by omega); have h2x : Bx (w2.setCells (w.heap.size + 1 + 1) 4 [.int .i64 h.book.tick, .int .i64 h.book.next, .int .i64 h.book.wallet, (.slice a20 n20 k20), (.slice a21 n21 k21), (.slice a22 n22 k22)]) (w.heap.size + 1) [.slice none 0 0, .slice none 0 0, .int .i64 0, .int .i64 0, .int .i64 0, .int .i64 0, .int .i64 0, .slice none 0 0, .slice none 0 0, .slice none 0 0, .int .i64 0, .slice none 0 0, .slice none 0 0, .slice none 0 0] := hR.other (w.heap.size + 1 + 1) 4 [.int .i64 h.book.tick, .int .i64 h.book.next, .int .i64 h.book.wallet, (.slice a20 n20 k20), (.slice a21 n21 k21), (.slice a22 n22 k22)] (by omega); have h3x : Bx (w2.setCells (w.heap.size + 1 + 1) 4 [.int .i64 h.book.tick, .int .i64 h.book.next, .int .i64 h.book.wallet, (.slice a20 n20 k20), (.slice a21 n21 k21), (.slice a22 n22 k22)]) (w.heap.size + 1 + 1) (putL [(.slice a10 n10 k10), (.slice a11 n11 k11), .int .i64 h.log.next, .int .i64 h.log.epoch, .int .i64 0, .int .i64 0, .int .i64 0, .slice none 0 0, .slice none 0 0, .slice none 0 0, .int .i64 0, .slice none 0 0, .slice none 0 0, .slice none 0 0] 4 [.int .i64 h.book.tick, .int .i64 h.book.next, .int .i64 h.book.wallet, (.slice a20 n20 k20), (.slice a21 n21 k21), (.slice a22 n22 k22)]) := hO.set 4 [.int .i64 h.book.tick, .int .i64 h.book.next, .int .i64 h.book.wallet, (.slice a20 n20 k20), (.slice a21 n21 k21), (.slice a22 n22 k22)] (by exact Nat.le_of_ble_eq_true rfl); have exx : Ex [(w.heap.size + 1 + 1)] w2 (w2.setCells (w.heap.size + 1 + 1) 4 [.int .i64 h.book.tick, .int .i64 h.book.next, .int .i64 h.book.wallet, (.slice a20 n20 k20), (.slice a21 n21 k21), (.slice a22 n22 k22)]) := ex_setCells (by simp) [.int .i64 h.book.tick, .int .i64 h.book.next, .int .i64 h.book.wallet, (.slice a20 n20 k20), (.slice a21 n21 k21), (.slice a22 n22 k22)] _ _ _ (Ex.refl _ _); have BXx : Below w.heap.size w (w2.setCells (w.heap.size + 1 + 1) 4 [.int .i64 h.book.tick, .int .i64 h.book.next, .int .i64 h.book.wallet, (.slice a20 n20 k20), (.slice a21 n21 k21), (.slice a22 n22 k22)]) := below_setCells2 (by omega) [.int .i64 h.book.tick, .int .i64 h.book.next, .int .i64 h.book.wallet, (.slice a20 n20 k20), (.slice a21 n21 k21), (.slice a22 n22 k22)] _ _ BX; have ZXx : (w2.setCells (w.heap.size + 1 + 1) 4 [.int .i64 h.book.tick, .int .i64 h.book.next, .int .i64 h.book.wallet, (.slice a20 n20 k20), (.slice a21 n21 k21), (.slice a22 n22 k22)]).heap.size = w2.heap.size := size_setCells2 [.int .i64 h.book.tick, .int .i64 h.book.next, .int .i64 h.book.wallet, (.slice a20 n20 k20), (.slice a21 n21 k21), (.slice a22 n22 k22)] _ _ _; generalize (w2.setCells (w.heap.size + 1 + 1) 4 [.int .i64 h.book.tick, .int .i64 h.book.next, .int .i64 h.book.wallet, (.slice a20 n20 k20), (.slice a21 n21 k21), (.slice a22 n22 k22)]) = X2 at hPx h2x h3x exx BXx ZXx ⊢)
  replace hP := hPx
  replace hR := h2x
  replace hO : Bx X2 (w.heap.size + 1 + 1) [(.slice a10 n10 k10), (.slice a11 n11 k11), .int .i64 h.log.next, .int .i64 h.log.epoch, .int .i64 h.book.tick, .int .i64 h.book.next, .int .i64 h.book.wallet, (.slice a20 n20 k20), (.slice a21 n21 k21), (.slice a22 n22 k22), .int .i64 0, .slice none 0 0, .slice none 0 0, .slice none 0 0] := h3x
  replace BX := BXx
  replace hs : X0.heap.size ≤ X2.heap.size := by rw [ZXx]; exact hs
  clear hPx h2x h3x BXx ZXx
  replace ho1 := ho1.kept exx (fun k hk hm => by have := (ho1.lt k hk).1; simp only [List.mem_cons, List.not_mem_nil, or_false] at hm; omega)
  replace ho2 := ho2.kept exx (fun k hk hm => by have := (ho2.lt k hk).1; simp only [List.mem_cons, List.not_mem_nil, or_false] at hm; omega)
  clear exx
  go_wp2_with ((show Go.wpList _ _ _ ((Go.Oper.mk _ (Go.Op.load 35 _) _ _ _ _) :: _) _ _); refine wpList_load_row unLLedger infLLedger rfl _ rfl _ _ rfl [.int .i64 h.ledger.last, l] (hP.range 10 [.int .i64 h.ledger.last, l] rfl) rfl ?_)
  refine (toLedger_any _ h.ledger X2 (V.ledger.keep BX) hB.2.2.1).mono ?_
  rintro e w3 ⟨⟨F3, u0, rfl, ho3⟩, hb⟩
  have hl := ho3.lt
  replace ho3 := ho3.le hs
  replace hnd := nodup_fresh hnd ho3.nd (n := X2.heap.size) (fun k hk => by
    rcases List.mem_append.1 hk with hk | hk
    rotate_left
    · exact (ho2.lt k hk).2
    exact (ho1.lt k hk).2) (fun k hk => (hl k hk).1)
  replace ho1 := ho1.keep hb
  replace ho2 := ho2.keep hb
  replace hP := hP.keep hb
  replace hR := hR.keep hb
  replace hO := hO.keep hb
  replace hs := Nat.le_trans hs hb.size
  replace BX := below_via hb BX
  clear hb hl
  obtain ⟨a30, n30, k30, rfl⟩ := ho3.form
  go_upto_region 5 with ((show Go.wpList _ _ _ ((Go.Oper.mk _ (Go.Op.store 57 _ _) _ _ _ _) :: _) _ _); refine wpList_store_row infLedger rfl _ _ rfl (w.heap.size + 1 + 1) 10 [.int .i64 h.ledger.last, (.slice a30 n30 k30)] rfl rfl (hO.there 10 2 (by exact Nat.le_of_ble_eq_true rfl)) rfl (by intro v hv; simp only [List.mem_cons, List.not_mem_nil, or_false] at hv; rcases hv with rfl | rfl <;> rfl) ?_; have hPx : Bx (w3.setCells (w.heap.size + 1 + 1) 10 [.int .i64 h.ledger.last, (.slice a30 n30 k30)]) w.heap.size [c, d, .int .i64 h.log.next, .int .i64 h.log.epoch, .int .i64 h.book.tick, .int .i64 h.book.next, .int .i64 h.book.wallet, x, y, z, .int .i64 h.ledger.last, l, p, q] := hP.other (w.heap.size + 1 + 1) 10 [.int .i64 h.ledger.last, (.slice a30 n30 k30)] (by omega); have h2x : Bx (w3.setCells (w.heap.size + 1 + 1) 10 [.int .i64 h.ledger.last, (.slice a30 n30 k30)]) (w.heap.size + 1) [.slice none 0 0, .slice none 0 0, .int .i64 0, .int .i64 0, .int .i64 0, .int .i64 0, .int .i64 0, .slice none 0 0, .slice none 0 0, .slice none 0 0, .int .i64 0, .slice none 0 0, .slice none 0 0, .slice none 0 0] := hR.other (w.heap.size + 1 + 1) 10 [.int .i64 h.ledger.last, (.slice a30 n30 k30)] (by omega); have h3x : Bx (w3.setCells (w.heap.size + 1 + 1) 10 [.int .i64 h.ledger.last, (.slice a30 n30 k30)]) (w.heap.size + 1 + 1) (putL [(.slice a10 n10 k10), (.slice a11 n11 k11), .int .i64 h.log.next, .int .i64 h.log.epoch, .int .i64 h.book.tick, .int .i64 h.book.next, .int .i64 h.book.wallet, (.slice a20 n20 k20), (.slice a21 n21 k21), (.slice a22 n22 k22), .int .i64 0, .slice none 0 0, .slice none 0 0, .slice none 0 0] 10 [.int .i64 h.ledger.last, (.slice a30 n30 k30)]) := hO.set 10 [.int .i64 h.ledger.last, (.slice a30 n30 k30)] (by exact Nat.le_of_ble_eq_true rfl); have exx : Ex [(w.heap.size + 1 + 1)] w3 (w3.setCells (w.heap.size + 1 + 1) 10 [.int .i64 h.ledger.last, (.slice a30 n30 k30)]) := ex_setCells (by simp) [.int .i64 h.ledger.last, (.slice a30 n30 k30)] _ _ _ (Ex.refl _ _); have BXx : Below w.heap.size w (w3.setCells (w.heap.size + 1 + 1) 10 [.int .i64 h.ledger.last, (.slice a30 n30 k30)]) := below_setCells2 (by omega) [.int .i64 h.ledger.last, (.slice a30 n30 k30)] _ _ BX; have ZXx : (w3.setCells (w.heap.size + 1 + 1) 10 [.int .i64 h.ledger.last, (.slice a30 n30 k30)]).heap.size = w3.heap.size := size_setCells2 [.int .i64 h.ledger.last, (.slice a30 n30 k30)] _ _ _; generalize (w3.setCells (w.heap.size + 1 + 1) 10 [.int .i64 h.ledger.last, (.slice a30 n30 k30)]) = X3 at hPx h2x h3x exx BXx ZXx ⊢)
  replace hP := hPx
  replace hR := h2x
  replace hO : Bx X3 (w.heap.size + 1 + 1) [(.slice a10 n10 k10), (.slice a11 n11 k11), .int .i64 h.log.next, .int .i64 h.log.epoch, .int .i64 h.book.tick, .int .i64 h.book.next, .int .i64 h.book.wallet, (.slice a20 n20 k20), (.slice a21 n21 k21), (.slice a22 n22 k22), .int .i64 h.ledger.last, (.slice a30 n30 k30), .slice none 0 0, .slice none 0 0] := h3x
  replace BX := BXx
  replace hs : X0.heap.size ≤ X3.heap.size := by rw [ZXx]; exact hs
  clear hPx h2x h3x BXx ZXx
  replace ho1 := ho1.kept exx (fun k hk hm => by have := (ho1.lt k hk).1; simp only [List.mem_cons, List.not_mem_nil, or_false] at hm; omega)
  replace ho2 := ho2.kept exx (fun k hk hm => by have := (ho2.lt k hk).1; simp only [List.mem_cons, List.not_mem_nil, or_false] at hm; omega)
  replace ho3 := ho3.kept exx (fun k hk hm => by have := (ho3.lt k hk).1; simp only [List.mem_cons, List.not_mem_nil, or_false] at hm; omega)
  clear exx
  have p4 := hP.cell 12 (p) rfl
  go_wp2_with fail
  refine (toEventS_o _ h.wait X3 (V.wait.keep BX) hB.2.2.2.1).mono ?_
  rintro e w4 ⟨⟨F4, u0, rfl, ho4⟩, hb⟩
  have hl := ho4.lt
  replace ho4 := ho4.le hs
  clear p4
  replace hnd := nodup_fresh hnd ho4.nd (n := X3.heap.size) (fun k hk => by
    rcases List.mem_append.1 hk with hk | hk
    rotate_left
    · exact (ho3.lt k hk).2
    rcases List.mem_append.1 hk with hk | hk
    rotate_left
    · exact (ho2.lt k hk).2
    exact (ho1.lt k hk).2) (fun k hk => (hl k hk).1)
  replace ho1 := ho1.keep hb
  replace ho2 := ho2.keep hb
  replace ho3 := ho3.keep hb
  replace hP := hP.keep hb
  replace hR := hR.keep hb
  replace hO := hO.keep hb
  replace hs := Nat.le_trans hs hb.size
  replace BX := below_via hb BX
  clear hb hl
  obtain ⟨a40, n40, k40, rfl⟩ := ho4.form
  have o4 := hO.cell 12 (.slice none 0 0) rfl
  have q4 := hO.fz 12 (by exact Nat.le_of_ble_eq_true rfl)
  go_upto_region 6 with fail
  clear o4 q4
  have hPx : Bx (w4.setCell ⟨(w.heap.size + 1 + 1), 12, none⟩ (.slice a40 n40 k40)) w.heap.size [c, d, .int .i64 h.log.next, .int .i64 h.log.epoch, .int .i64 h.book.tick, .int .i64 h.book.next, .int .i64 h.book.wallet, x, y, z, .int .i64 h.ledger.last, l, p, q] := hP.other (w.heap.size + 1 + 1) 12 [(.slice a40 n40 k40)] (by omega)
  have h2x : Bx (w4.setCell ⟨(w.heap.size + 1 + 1), 12, none⟩ (.slice a40 n40 k40)) (w.heap.size + 1) [.slice none 0 0, .slice none 0 0, .int .i64 0, .int .i64 0, .int .i64 0, .int .i64 0, .int .i64 0, .slice none 0 0, .slice none 0 0, .slice none 0 0, .int .i64 0, .slice none 0 0, .slice none 0 0, .slice none 0 0] := hR.other (w.heap.size + 1 + 1) 12 [(.slice a40 n40 k40)] (by omega)
  have h3x : Bx (w4.setCell ⟨(w.heap.size + 1 + 1), 12, none⟩ (.slice a40 n40 k40)) (w.heap.size + 1 + 1) (putL [(.slice a10 n10 k10), (.slice a11 n11 k11), .int .i64 h.log.next, .int .i64 h.log.epoch, .int .i64 h.book.tick, .int .i64 h.book.next, .int .i64 h.book.wallet, (.slice a20 n20 k20), (.slice a21 n21 k21), (.slice a22 n22 k22), .int .i64 h.ledger.last, (.slice a30 n30 k30), .slice none 0 0, .slice none 0 0] 12 [(.slice a40 n40 k40)]) := hO.set 12 [(.slice a40 n40 k40)] (by exact Nat.le_of_ble_eq_true rfl)
  have exx : Ex [(w.heap.size + 1 + 1)] w4 (w4.setCell ⟨(w.heap.size + 1 + 1), 12, none⟩ (.slice a40 n40 k40)) := ex_setCells (by simp) [(.slice a40 n40 k40)] _ _ _ (Ex.refl _ _)
  have BXx : Below w.heap.size w (w4.setCell ⟨(w.heap.size + 1 + 1), 12, none⟩ (.slice a40 n40 k40)) := below_setCells2 (by omega) [(.slice a40 n40 k40)] _ _ BX
  have ZXx : (w4.setCell ⟨(w.heap.size + 1 + 1), 12, none⟩ (.slice a40 n40 k40)).heap.size = w4.heap.size := size_setCells2 [(.slice a40 n40 k40)] _ _ _
  generalize (w4.setCell ⟨(w.heap.size + 1 + 1), 12, none⟩ (.slice a40 n40 k40)) = X4 at hPx h2x h3x exx BXx ZXx ⊢
  replace hP := hPx
  replace hR := h2x
  replace hO : Bx X4 (w.heap.size + 1 + 1) [(.slice a10 n10 k10), (.slice a11 n11 k11), .int .i64 h.log.next, .int .i64 h.log.epoch, .int .i64 h.book.tick, .int .i64 h.book.next, .int .i64 h.book.wallet, (.slice a20 n20 k20), (.slice a21 n21 k21), (.slice a22 n22 k22), .int .i64 h.ledger.last, (.slice a30 n30 k30), (.slice a40 n40 k40), .slice none 0 0] := h3x
  replace BX := BXx
  replace hs : X0.heap.size ≤ X4.heap.size := by rw [ZXx]; exact hs
  clear hPx h2x h3x BXx ZXx
  replace ho1 := ho1.kept exx (fun k hk hm => by have := (ho1.lt k hk).1; simp only [List.mem_cons, List.not_mem_nil, or_false] at hm; omega)
  replace ho2 := ho2.kept exx (fun k hk hm => by have := (ho2.lt k hk).1; simp only [List.mem_cons, List.not_mem_nil, or_false] at hm; omega)
  replace ho3 := ho3.kept exx (fun k hk hm => by have := (ho3.lt k hk).1; simp only [List.mem_cons, List.not_mem_nil, or_false] at hm; omega)
  replace ho4 := ho4.kept exx (fun k hk hm => by have := (ho4.lt k hk).1; simp only [List.mem_cons, List.not_mem_nil, or_false] at hm; omega)
  clear exx
  have p5 := hP.cell 13 (q) rfl
  go_wp2_with fail
  refine (toEventS_o _ h.sent X4 (V.sent.keep BX) hB.2.2.2.2).mono ?_
  rintro e w5 ⟨⟨F5, u0, rfl, ho5⟩, hb⟩
  have hl := ho5.lt
  replace ho5 := ho5.le hs
  clear p5
  replace hnd := nodup_fresh hnd ho5.nd (n := X4.heap.size) (fun k hk => by
    rcases List.mem_append.1 hk with hk | hk
    rotate_left
    · exact (ho4.lt k hk).2
    rcases List.mem_append.1 hk with hk | hk
    rotate_left
    · exact (ho3.lt k hk).2
    rcases List.mem_append.1 hk with hk | hk
    rotate_left
    · exact (ho2.lt k hk).2
    exact (ho1.lt k hk).2) (fun k hk => (hl k hk).1)
  replace ho1 := ho1.keep hb
  replace ho2 := ho2.keep hb
  replace ho3 := ho3.keep hb
  replace ho4 := ho4.keep hb
  replace hP := hP.keep hb
  replace hR := hR.keep hb
  replace hO := hO.keep hb
  replace hs := Nat.le_trans hs hb.size
  replace BX := below_via hb BX
  clear hb hl
  obtain ⟨a50, n50, k50, rfl⟩ := ho5.form
  have o5 := hO.cell 13 (.slice none 0 0) rfl
  have q5 := hO.fz 13 (by exact Nat.le_of_ble_eq_true rfl)
  go_upto_region 7 with fail
  clear o5 q5
  have hPx : Bx (w5.setCell ⟨(w.heap.size + 1 + 1), 13, none⟩ (.slice a50 n50 k50)) w.heap.size [c, d, .int .i64 h.log.next, .int .i64 h.log.epoch, .int .i64 h.book.tick, .int .i64 h.book.next, .int .i64 h.book.wallet, x, y, z, .int .i64 h.ledger.last, l, p, q] := hP.other (w.heap.size + 1 + 1) 13 [(.slice a50 n50 k50)] (by omega)
  have h2x : Bx (w5.setCell ⟨(w.heap.size + 1 + 1), 13, none⟩ (.slice a50 n50 k50)) (w.heap.size + 1) [.slice none 0 0, .slice none 0 0, .int .i64 0, .int .i64 0, .int .i64 0, .int .i64 0, .int .i64 0, .slice none 0 0, .slice none 0 0, .slice none 0 0, .int .i64 0, .slice none 0 0, .slice none 0 0, .slice none 0 0] := hR.other (w.heap.size + 1 + 1) 13 [(.slice a50 n50 k50)] (by omega)
  have h3x : Bx (w5.setCell ⟨(w.heap.size + 1 + 1), 13, none⟩ (.slice a50 n50 k50)) (w.heap.size + 1 + 1) (putL [(.slice a10 n10 k10), (.slice a11 n11 k11), .int .i64 h.log.next, .int .i64 h.log.epoch, .int .i64 h.book.tick, .int .i64 h.book.next, .int .i64 h.book.wallet, (.slice a20 n20 k20), (.slice a21 n21 k21), (.slice a22 n22 k22), .int .i64 h.ledger.last, (.slice a30 n30 k30), (.slice a40 n40 k40), .slice none 0 0] 13 [(.slice a50 n50 k50)]) := hO.set 13 [(.slice a50 n50 k50)] (by exact Nat.le_of_ble_eq_true rfl)
  have exx : Ex [(w.heap.size + 1 + 1)] w5 (w5.setCell ⟨(w.heap.size + 1 + 1), 13, none⟩ (.slice a50 n50 k50)) := ex_setCells (by simp) [(.slice a50 n50 k50)] _ _ _ (Ex.refl _ _)
  have BXx : Below w.heap.size w (w5.setCell ⟨(w.heap.size + 1 + 1), 13, none⟩ (.slice a50 n50 k50)) := below_setCells2 (by omega) [(.slice a50 n50 k50)] _ _ BX
  have ZXx : (w5.setCell ⟨(w.heap.size + 1 + 1), 13, none⟩ (.slice a50 n50 k50)).heap.size = w5.heap.size := size_setCells2 [(.slice a50 n50 k50)] _ _ _
  generalize (w5.setCell ⟨(w.heap.size + 1 + 1), 13, none⟩ (.slice a50 n50 k50)) = X5 at hPx h2x h3x exx BXx ZXx ⊢
  replace hP := hPx
  replace hR := h2x
  replace hO : Bx X5 (w.heap.size + 1 + 1) [(.slice a10 n10 k10), (.slice a11 n11 k11), .int .i64 h.log.next, .int .i64 h.log.epoch, .int .i64 h.book.tick, .int .i64 h.book.next, .int .i64 h.book.wallet, (.slice a20 n20 k20), (.slice a21 n21 k21), (.slice a22 n22 k22), .int .i64 h.ledger.last, (.slice a30 n30 k30), (.slice a40 n40 k40), (.slice a50 n50 k50)] := h3x
  replace BX := BXx
  replace hs : X0.heap.size ≤ X5.heap.size := by rw [ZXx]; exact hs
  clear hPx h2x h3x BXx ZXx
  replace ho1 := ho1.kept exx (fun k hk hm => by have := (ho1.lt k hk).1; simp only [List.mem_cons, List.not_mem_nil, or_false] at hm; omega)
  replace ho2 := ho2.kept exx (fun k hk hm => by have := (ho2.lt k hk).1; simp only [List.mem_cons, List.not_mem_nil, or_false] at hm; omega)
  replace ho3 := ho3.kept exx (fun k hk hm => by have := (ho3.lt k hk).1; simp only [List.mem_cons, List.not_mem_nil, or_false] at hm; omega)
  replace ho4 := ho4.kept exx (fun k hk hm => by have := (ho4.lt k hk).1; simp only [List.mem_cons, List.not_mem_nil, or_false] at hm; omega)
  replace ho5 := ho5.kept exx (fun k hk hm => by have := (ho5.lt k hk).1; simp only [List.mem_cons, List.not_mem_nil, or_false] at hm; omega)
  clear exx
  go_wp2_with (first
    | ((show Go.wpList _ _ _ ((Go.Oper.mk _ (Go.Op.load 60 _) _ _ _ _) :: _) _ _); refine wpList_load_row unHub infHub rfl _ rfl _ _ rfl [(.slice a10 n10 k10), (.slice a11 n11 k11), .int .i64 h.log.next, .int .i64 h.log.epoch, .int .i64 h.book.tick, .int .i64 h.book.next, .int .i64 h.book.wallet, (.slice a20 n20 k20), (.slice a21 n21 k21), (.slice a22 n22 k22), .int .i64 h.ledger.last, (.slice a30 n30 k30), (.slice a40 n40 k40), (.slice a50 n50 k50)] (hO.range 0 [(.slice a10 n10 k10), (.slice a11 n11 k11), .int .i64 h.log.next, .int .i64 h.log.epoch, .int .i64 h.book.tick, .int .i64 h.book.next, .int .i64 h.book.wallet, (.slice a20 n20 k20), (.slice a21 n21 k21), (.slice a22 n22 k22), .int .i64 h.ledger.last, (.slice a30 n30 k30), (.slice a40 n40 k40), (.slice a50 n50 k50)] rfl) rfl ?_)
    | ((show Go.wpList _ _ _ ((Go.Oper.mk _ (Go.Op.store 60 _ _) _ _ _ _) :: _) _ _); refine wpList_store_row infHub rfl _ _ rfl (w.heap.size + 1) 0 [(.slice a10 n10 k10), (.slice a11 n11 k11), .int .i64 h.log.next, .int .i64 h.log.epoch, .int .i64 h.book.tick, .int .i64 h.book.next, .int .i64 h.book.wallet, (.slice a20 n20 k20), (.slice a21 n21 k21), (.slice a22 n22 k22), .int .i64 h.ledger.last, (.slice a30 n30 k30), (.slice a40 n40 k40), (.slice a50 n50 k50)] rfl rfl (hR.there 0 14 (by exact Nat.le_of_ble_eq_true rfl)) rfl (by intro v hv; simp only [List.mem_cons, List.not_mem_nil, or_false] at hv; rcases hv with rfl | rfl | rfl | rfl | rfl | rfl | rfl | rfl | rfl | rfl | rfl | rfl | rfl | rfl <;> rfl) ?_; have hPx : Bx (X5.setCells (w.heap.size + 1) 0 [(.slice a10 n10 k10), (.slice a11 n11 k11), .int .i64 h.log.next, .int .i64 h.log.epoch, .int .i64 h.book.tick, .int .i64 h.book.next, .int .i64 h.book.wallet, (.slice a20 n20 k20), (.slice a21 n21 k21), (.slice a22 n22 k22), .int .i64 h.ledger.last, (.slice a30 n30 k30), (.slice a40 n40 k40), (.slice a50 n50 k50)]) w.heap.size [c, d, .int .i64 h.log.next, .int .i64 h.log.epoch, .int .i64 h.book.tick, .int .i64 h.book.next, .int .i64 h.book.wallet, x, y, z, .int .i64 h.ledger.last, l, p, q] := hP.other (w.heap.size + 1) 0 [(.slice a10 n10 k10), (.slice a11 n11 k11), .int .i64 h.log.next, .int .i64 h.log.epoch, .int .i64 h.book.tick, .int .i64 h.book.next, .int .i64 h.book.wallet, (.slice a20 n20 k20), (.slice a21 n21 k21), (.slice a22 n22 k22), .int .i64 h.ledger.last, (.slice a30 n30 k30), (.slice a40 n40 k40), (.slice a50 n50 k50)] (by omega); have h2x : Bx (X5.setCells (w.heap.size + 1) 0 [(.slice a10 n10 k10), (.slice a11 n11 k11), .int .i64 h.log.next, .int .i64 h.log.epoch, .int .i64 h.book.tick, .int .i64 h.book.next, .int .i64 h.book.wallet, (.slice a20 n20 k20), (.slice a21 n21 k21), (.slice a22 n22 k22), .int .i64 h.ledger.last, (.slice a30 n30 k30), (.slice a40 n40 k40), (.slice a50 n50 k50)]) (w.heap.size + 1 + 1) [(.slice a10 n10 k10), (.slice a11 n11 k11), .int .i64 h.log.next, .int .i64 h.log.epoch, .int .i64 h.book.tick, .int .i64 h.book.next, .int .i64 h.book.wallet, (.slice a20 n20 k20), (.slice a21 n21 k21), (.slice a22 n22 k22), .int .i64 h.ledger.last, (.slice a30 n30 k30), (.slice a40 n40 k40), (.slice a50 n50 k50)] := hO.other (w.heap.size + 1) 0 [(.slice a10 n10 k10), (.slice a11 n11 k11), .int .i64 h.log.next, .int .i64 h.log.epoch, .int .i64 h.book.tick, .int .i64 h.book.next, .int .i64 h.book.wallet, (.slice a20 n20 k20), (.slice a21 n21 k21), (.slice a22 n22 k22), .int .i64 h.ledger.last, (.slice a30 n30 k30), (.slice a40 n40 k40), (.slice a50 n50 k50)] (by omega); have h3x : Bx (X5.setCells (w.heap.size + 1) 0 [(.slice a10 n10 k10), (.slice a11 n11 k11), .int .i64 h.log.next, .int .i64 h.log.epoch, .int .i64 h.book.tick, .int .i64 h.book.next, .int .i64 h.book.wallet, (.slice a20 n20 k20), (.slice a21 n21 k21), (.slice a22 n22 k22), .int .i64 h.ledger.last, (.slice a30 n30 k30), (.slice a40 n40 k40), (.slice a50 n50 k50)]) (w.heap.size + 1) (putL [.slice none 0 0, .slice none 0 0, .int .i64 0, .int .i64 0, .int .i64 0, .int .i64 0, .int .i64 0, .slice none 0 0, .slice none 0 0, .slice none 0 0, .int .i64 0, .slice none 0 0, .slice none 0 0, .slice none 0 0] 0 [(.slice a10 n10 k10), (.slice a11 n11 k11), .int .i64 h.log.next, .int .i64 h.log.epoch, .int .i64 h.book.tick, .int .i64 h.book.next, .int .i64 h.book.wallet, (.slice a20 n20 k20), (.slice a21 n21 k21), (.slice a22 n22 k22), .int .i64 h.ledger.last, (.slice a30 n30 k30), (.slice a40 n40 k40), (.slice a50 n50 k50)]) := hR.set 0 [(.slice a10 n10 k10), (.slice a11 n11 k11), .int .i64 h.log.next, .int .i64 h.log.epoch, .int .i64 h.book.tick, .int .i64 h.book.next, .int .i64 h.book.wallet, (.slice a20 n20 k20), (.slice a21 n21 k21), (.slice a22 n22 k22), .int .i64 h.ledger.last, (.slice a30 n30 k30), (.slice a40 n40 k40), (.slice a50 n50 k50)] (by exact Nat.le_of_ble_eq_true rfl); have exx : Ex [(w.heap.size + 1)] X5 (X5.setCells (w.heap.size + 1) 0 [(.slice a10 n10 k10), (.slice a11 n11 k11), .int .i64 h.log.next, .int .i64 h.log.epoch, .int .i64 h.book.tick, .int .i64 h.book.next, .int .i64 h.book.wallet, (.slice a20 n20 k20), (.slice a21 n21 k21), (.slice a22 n22 k22), .int .i64 h.ledger.last, (.slice a30 n30 k30), (.slice a40 n40 k40), (.slice a50 n50 k50)]) := ex_setCells (by simp) [(.slice a10 n10 k10), (.slice a11 n11 k11), .int .i64 h.log.next, .int .i64 h.log.epoch, .int .i64 h.book.tick, .int .i64 h.book.next, .int .i64 h.book.wallet, (.slice a20 n20 k20), (.slice a21 n21 k21), (.slice a22 n22 k22), .int .i64 h.ledger.last, (.slice a30 n30 k30), (.slice a40 n40 k40), (.slice a50 n50 k50)] _ _ _ (Ex.refl _ _); have BXx : Below w.heap.size w (X5.setCells (w.heap.size + 1) 0 [(.slice a10 n10 k10), (.slice a11 n11 k11), .int .i64 h.log.next, .int .i64 h.log.epoch, .int .i64 h.book.tick, .int .i64 h.book.next, .int .i64 h.book.wallet, (.slice a20 n20 k20), (.slice a21 n21 k21), (.slice a22 n22 k22), .int .i64 h.ledger.last, (.slice a30 n30 k30), (.slice a40 n40 k40), (.slice a50 n50 k50)]) := below_setCells2 (by omega) [(.slice a10 n10 k10), (.slice a11 n11 k11), .int .i64 h.log.next, .int .i64 h.log.epoch, .int .i64 h.book.tick, .int .i64 h.book.next, .int .i64 h.book.wallet, (.slice a20 n20 k20), (.slice a21 n21 k21), (.slice a22 n22 k22), .int .i64 h.ledger.last, (.slice a30 n30 k30), (.slice a40 n40 k40), (.slice a50 n50 k50)] _ _ BX; have ZXx : (X5.setCells (w.heap.size + 1) 0 [(.slice a10 n10 k10), (.slice a11 n11 k11), .int .i64 h.log.next, .int .i64 h.log.epoch, .int .i64 h.book.tick, .int .i64 h.book.next, .int .i64 h.book.wallet, (.slice a20 n20 k20), (.slice a21 n21 k21), (.slice a22 n22 k22), .int .i64 h.ledger.last, (.slice a30 n30 k30), (.slice a40 n40 k40), (.slice a50 n50 k50)]).heap.size = X5.heap.size := size_setCells2 [(.slice a10 n10 k10), (.slice a11 n11 k11), .int .i64 h.log.next, .int .i64 h.log.epoch, .int .i64 h.book.tick, .int .i64 h.book.next, .int .i64 h.book.wallet, (.slice a20 n20 k20), (.slice a21 n21 k21), (.slice a22 n22 k22), .int .i64 h.ledger.last, (.slice a30 n30 k30), (.slice a40 n40 k40), (.slice a50 n50 k50)] _ _ _; generalize (X5.setCells (w.heap.size + 1) 0 [(.slice a10 n10 k10), (.slice a11 n11 k11), .int .i64 h.log.next, .int .i64 h.log.epoch, .int .i64 h.book.tick, .int .i64 h.book.next, .int .i64 h.book.wallet, (.slice a20 n20 k20), (.slice a21 n21 k21), (.slice a22 n22 k22), .int .i64 h.ledger.last, (.slice a30 n30 k30), (.slice a40 n40 k40), (.slice a50 n50 k50)]) = XF at hPx h2x h3x exx BXx ZXx ⊢))
  replace hP := hPx
  replace hO := h2x
  replace hR : Bx XF (w.heap.size + 1) [(.slice a10 n10 k10), (.slice a11 n11 k11), .int .i64 h.log.next, .int .i64 h.log.epoch, .int .i64 h.book.tick, .int .i64 h.book.next, .int .i64 h.book.wallet, (.slice a20 n20 k20), (.slice a21 n21 k21), (.slice a22 n22 k22), .int .i64 h.ledger.last, (.slice a30 n30 k30), (.slice a40 n40 k40), (.slice a50 n50 k50)] := h3x
  replace BX := BXx
  replace hs : X0.heap.size ≤ XF.heap.size := by rw [ZXx]; exact hs
  clear hPx h2x h3x BXx ZXx
  replace ho1 := ho1.kept exx (fun k hk hm => by have := (ho1.lt k hk).1; simp only [List.mem_cons, List.not_mem_nil, or_false] at hm; omega)
  replace ho2 := ho2.kept exx (fun k hk hm => by have := (ho2.lt k hk).1; simp only [List.mem_cons, List.not_mem_nil, or_false] at hm; omega)
  replace ho3 := ho3.kept exx (fun k hk hm => by have := (ho3.lt k hk).1; simp only [List.mem_cons, List.not_mem_nil, or_false] at hm; omega)
  replace ho4 := ho4.kept exx (fun k hk hm => by have := (ho4.lt k hk).1; simp only [List.mem_cons, List.not_mem_nil, or_false] at hm; omega)
  replace ho5 := ho5.kept exx (fun k hk hm => by have := (ho5.lt k hk).1; simp only [List.mem_cons, List.not_mem_nil, or_false] at hm; omega)
  clear exx
  have hL := run_load_row unHub infHub hR rfl
  refine bodyPost_ret (v := .agg #[(.slice a10 n10 k10), (.slice a11 n11 k11), .int .i64 h.log.next, .int .i64 h.log.epoch, .int .i64 h.book.tick, .int .i64 h.book.next, .int .i64 h.book.wallet, (.slice a20 n20 k20), (.slice a21 n21 k21), (.slice a22 n22 k22), .int .i64 h.ledger.last, (.slice a30 n30 k30), (.slice a40 n40 k40), (.slice a50 n50 k50)]) (by simp only [results, Tryz.results25]; simp [Act.put, hL, asAddr]) rfl ?_
  have hX : w.heap.size ≤ X0.heap.size := by omega
  replace ho1 := ho1.le hX
  replace ho2 := ho2.le hX
  replace ho3 := ho3.le hX
  replace ho4 := ho4.le hX
  replace ho5 := ho5.le hX
  exact ⟨⟨_, _, _, _, _, _, _, _, _, rfl, ⟨_, _, _, _, _, ⟨ho1, ho2, ho3, ho4, ho5⟩, rfl, hnd⟩⟩, BX⟩

set_option maxRecDepth 100000 in
set_option maxHeartbeats 12800000 in
theorem toWorld_any (c d x y z l p q c2 d2 t s k : Value) (W : Wd) (w : World) (V : WdV w w.heap.size c d x y z l p q c2 d2 t s k W) (hB : WdB W) : Calls Tryz.prog 8 #[.agg #[.bool W.up, c, d, .int .i64 W.hub.log.next, .int .i64 W.hub.log.epoch, .int .i64 W.hub.book.tick, .int .i64 W.hub.book.next, .int .i64 W.hub.book.wallet, x, y, z, .int .i64 W.hub.ledger.last, l, p, q, c2, d2, t, s, k]] w fun e w' => (∃ (F : List Nat) (c' d' x' y' z' l' p' q' c2' d2' t' s' k' : Value), e = .returned (.agg #[.bool W.up, c', d', .int .i64 W.hub.log.next, .int .i64 W.hub.log.epoch, .int .i64 W.hub.book.tick, .int .i64 W.hub.book.next, .int .i64 W.hub.book.wallet, x', y', z', .int .i64 W.hub.ledger.last, l', p', q', c2', d2', t', s', k']) ∧ WdO F w' w.heap.size c' d' x' y' z' l' p' q' c2' d2' t' s' k' W) ∧ Below w.heap.size w w' := by
  go_enter Tryz.func8, Tryz.ntmps8
  go_upto_region 3 with fail
  have hP : Bx (((w.alloc (.cells #[.bool W.up, c, d, .int .i64 W.hub.log.next, .int .i64 W.hub.log.epoch, .int .i64 W.hub.book.tick, .int .i64 W.hub.book.next, .int .i64 W.hub.book.wallet, x, y, z, .int .i64 W.hub.ledger.last, l, p, q, c2, d2, t, s, k] 41)).alloc (.cells #[.bool false, .slice none 0 0, .slice none 0 0, .int .i64 0, .int .i64 0, .int .i64 0, .int .i64 0, .int .i64 0, .slice none 0 0, .slice none 0 0, .slice none 0 0, .int .i64 0, .slice none 0 0, .slice none 0 0, .slice none 0 0, .slice none 0 0, .slice none 0 0, .slice none 0 0, .slice none 0 0, .slice none 0 0] 62)).alloc (.cells #[.bool W.up, .slice none 0 0, .slice none 0 0, .int .i64 0, .int .i64 0, .int .i64 0, .int .i64 0, .int .i64 0, .slice none 0 0, .slice none 0 0, .slice none 0 0, .int .i64 0, .slice none 0 0, .slice none 0 0, .slice none 0 0, .slice none 0 0, .slice none 0 0, .slice none 0 0, .slice none 0 0, .slice none 0 0] 62)) w.heap.size [.bool W.up, c, d, .int .i64 W.hub.log.next, .int .i64 W.hub.log.epoch, .int .i64 W.hub.book.tick, .int .i64 W.hub.book.next, .int .i64 W.hub.book.wallet, x, y, z, .int .i64 W.hub.ledger.last, l, p, q, c2, d2, t, s, k] := ((Bx.new _ _ _ [.bool W.up, c, d, .int .i64 W.hub.log.next, .int .i64 W.hub.log.epoch, .int .i64 W.hub.book.tick, .int .i64 W.hub.book.next, .int .i64 W.hub.book.wallet, x, y, z, .int .i64 W.hub.ledger.last, l, p, q, c2, d2, t, s, k] rfl (by exact Nat.zero_lt_succ _) _ rfl).alloc _).alloc _
  have hR : Bx (((w.alloc (.cells #[.bool W.up, c, d, .int .i64 W.hub.log.next, .int .i64 W.hub.log.epoch, .int .i64 W.hub.book.tick, .int .i64 W.hub.book.next, .int .i64 W.hub.book.wallet, x, y, z, .int .i64 W.hub.ledger.last, l, p, q, c2, d2, t, s, k] 41)).alloc (.cells #[.bool false, .slice none 0 0, .slice none 0 0, .int .i64 0, .int .i64 0, .int .i64 0, .int .i64 0, .int .i64 0, .slice none 0 0, .slice none 0 0, .slice none 0 0, .int .i64 0, .slice none 0 0, .slice none 0 0, .slice none 0 0, .slice none 0 0, .slice none 0 0, .slice none 0 0, .slice none 0 0, .slice none 0 0] 62)).alloc (.cells #[.bool W.up, .slice none 0 0, .slice none 0 0, .int .i64 0, .int .i64 0, .int .i64 0, .int .i64 0, .int .i64 0, .slice none 0 0, .slice none 0 0, .slice none 0 0, .int .i64 0, .slice none 0 0, .slice none 0 0, .slice none 0 0, .slice none 0 0, .slice none 0 0, .slice none 0 0, .slice none 0 0, .slice none 0 0] 62)) (w.heap.size + 1) [.bool false, .slice none 0 0, .slice none 0 0, .int .i64 0, .int .i64 0, .int .i64 0, .int .i64 0, .int .i64 0, .slice none 0 0, .slice none 0 0, .slice none 0 0, .int .i64 0, .slice none 0 0, .slice none 0 0, .slice none 0 0, .slice none 0 0, .slice none 0 0, .slice none 0 0, .slice none 0 0, .slice none 0 0] := (Bx.new _ _ _ [.bool false, .slice none 0 0, .slice none 0 0, .int .i64 0, .int .i64 0, .int .i64 0, .int .i64 0, .int .i64 0, .slice none 0 0, .slice none 0 0, .slice none 0 0, .int .i64 0, .slice none 0 0, .slice none 0 0, .slice none 0 0, .slice none 0 0, .slice none 0 0, .slice none 0 0, .slice none 0 0, .slice none 0 0] rfl (by exact Nat.zero_lt_succ _) _ (by simp)).alloc _
  have hO : Bx (((w.alloc (.cells #[.bool W.up, c, d, .int .i64 W.hub.log.next, .int .i64 W.hub.log.epoch, .int .i64 W.hub.book.tick, .int .i64 W.hub.book.next, .int .i64 W.hub.book.wallet, x, y, z, .int .i64 W.hub.ledger.last, l, p, q, c2, d2, t, s, k] 41)).alloc (.cells #[.bool false, .slice none 0 0, .slice none 0 0, .int .i64 0, .int .i64 0, .int .i64 0, .int .i64 0, .int .i64 0, .slice none 0 0, .slice none 0 0, .slice none 0 0, .int .i64 0, .slice none 0 0, .slice none 0 0, .slice none 0 0, .slice none 0 0, .slice none 0 0, .slice none 0 0, .slice none 0 0, .slice none 0 0] 62)).alloc (.cells #[.bool W.up, .slice none 0 0, .slice none 0 0, .int .i64 0, .int .i64 0, .int .i64 0, .int .i64 0, .int .i64 0, .slice none 0 0, .slice none 0 0, .slice none 0 0, .int .i64 0, .slice none 0 0, .slice none 0 0, .slice none 0 0, .slice none 0 0, .slice none 0 0, .slice none 0 0, .slice none 0 0, .slice none 0 0] 62)) (w.heap.size + 1 + 1) [.bool W.up, .slice none 0 0, .slice none 0 0, .int .i64 0, .int .i64 0, .int .i64 0, .int .i64 0, .int .i64 0, .slice none 0 0, .slice none 0 0, .slice none 0 0, .int .i64 0, .slice none 0 0, .slice none 0 0, .slice none 0 0, .slice none 0 0, .slice none 0 0, .slice none 0 0, .slice none 0 0, .slice none 0 0] := Bx.new _ _ _ [.bool W.up, .slice none 0 0, .slice none 0 0, .int .i64 0, .int .i64 0, .int .i64 0, .int .i64 0, .int .i64 0, .slice none 0 0, .slice none 0 0, .slice none 0 0, .int .i64 0, .slice none 0 0, .slice none 0 0, .slice none 0 0, .slice none 0 0, .slice none 0 0, .slice none 0 0, .slice none 0 0, .slice none 0 0] rfl (by exact Nat.zero_lt_succ _) _ (by simp)
  have BX : Below w.heap.size w (((w.alloc (.cells #[.bool W.up, c, d, .int .i64 W.hub.log.next, .int .i64 W.hub.log.epoch, .int .i64 W.hub.book.tick, .int .i64 W.hub.book.next, .int .i64 W.hub.book.wallet, x, y, z, .int .i64 W.hub.ledger.last, l, p, q, c2, d2, t, s, k] 41)).alloc (.cells #[.bool false, .slice none 0 0, .slice none 0 0, .int .i64 0, .int .i64 0, .int .i64 0, .int .i64 0, .int .i64 0, .slice none 0 0, .slice none 0 0, .slice none 0 0, .int .i64 0, .slice none 0 0, .slice none 0 0, .slice none 0 0, .slice none 0 0, .slice none 0 0, .slice none 0 0, .slice none 0 0, .slice none 0 0] 62)).alloc (.cells #[.bool W.up, .slice none 0 0, .slice none 0 0, .int .i64 0, .int .i64 0, .int .i64 0, .int .i64 0, .int .i64 0, .slice none 0 0, .slice none 0 0, .slice none 0 0, .int .i64 0, .slice none 0 0, .slice none 0 0, .slice none 0 0, .slice none 0 0, .slice none 0 0, .slice none 0 0, .slice none 0 0, .slice none 0 0] 62)) := by (repeat (first | (with_reducible exact Below.refl _ _) | (with_reducible assumption) | (with_reducible refine Below.setCell ?_ ?side _; case side => first | (with_reducible exact Nat.le_refl _) | (simp; done) | (simp only [World.size_alloc, World.size_setCell, World.size_drew, World.heap_drewN] at *; omega)) | (with_reducible refine below_alloc ?_ _) | (with_reducible refine Below.drew ?_) | (with_reducible refine below_drewN ?_) | (with_reducible refine below_via (by assumption) ?_)))
  have ZX : (((w.alloc (.cells #[.bool W.up, c, d, .int .i64 W.hub.log.next, .int .i64 W.hub.log.epoch, .int .i64 W.hub.book.tick, .int .i64 W.hub.book.next, .int .i64 W.hub.book.wallet, x, y, z, .int .i64 W.hub.ledger.last, l, p, q, c2, d2, t, s, k] 41)).alloc (.cells #[.bool false, .slice none 0 0, .slice none 0 0, .int .i64 0, .int .i64 0, .int .i64 0, .int .i64 0, .int .i64 0, .slice none 0 0, .slice none 0 0, .slice none 0 0, .int .i64 0, .slice none 0 0, .slice none 0 0, .slice none 0 0, .slice none 0 0, .slice none 0 0, .slice none 0 0, .slice none 0 0, .slice none 0 0] 62)).alloc (.cells #[.bool W.up, .slice none 0 0, .slice none 0 0, .int .i64 0, .int .i64 0, .int .i64 0, .int .i64 0, .int .i64 0, .slice none 0 0, .slice none 0 0, .slice none 0 0, .int .i64 0, .slice none 0 0, .slice none 0 0, .slice none 0 0, .slice none 0 0, .slice none 0 0, .slice none 0 0, .slice none 0 0, .slice none 0 0] 62)).heap.size = w.heap.size + 3 := by simp
  generalize ((w.alloc (.cells #[.bool W.up, c, d, .int .i64 W.hub.log.next, .int .i64 W.hub.log.epoch, .int .i64 W.hub.book.tick, .int .i64 W.hub.book.next, .int .i64 W.hub.book.wallet, x, y, z, .int .i64 W.hub.ledger.last, l, p, q, c2, d2, t, s, k] 41)).alloc (.cells #[.bool false, .slice none 0 0, .slice none 0 0, .int .i64 0, .int .i64 0, .int .i64 0, .int .i64 0, .int .i64 0, .slice none 0 0, .slice none 0 0, .slice none 0 0, .int .i64 0, .slice none 0 0, .slice none 0 0, .slice none 0 0, .slice none 0 0, .slice none 0 0, .slice none 0 0, .slice none 0 0, .slice none 0 0] 62)).alloc (.cells #[.bool W.up, .slice none 0 0, .slice none 0 0, .int .i64 0, .int .i64 0, .int .i64 0, .int .i64 0, .int .i64 0, .slice none 0 0, .slice none 0 0, .slice none 0 0, .int .i64 0, .slice none 0 0, .slice none 0 0, .slice none 0 0, .slice none 0 0, .slice none 0 0, .slice none 0 0, .slice none 0 0, .slice none 0 0] 62) = X0 at hP hR hO BX ZX ⊢
  have hs : X0.heap.size ≤ X0.heap.size := Nat.le_refl _
  go_wp2_with ((show Go.wpList _ _ _ ((Go.Oper.mk _ (Go.Op.load 38 _) _ _ _ _) :: _) _ _); refine wpList_load_row unLHub infLHub rfl _ rfl _ _ rfl [c, d, .int .i64 W.hub.log.next, .int .i64 W.hub.log.epoch, .int .i64 W.hub.book.tick, .int .i64 W.hub.book.next, .int .i64 W.hub.book.wallet, x, y, z, .int .i64 W.hub.ledger.last, l, p, q] (hP.range 1 [c, d, .int .i64 W.hub.log.next, .int .i64 W.hub.log.epoch, .int .i64 W.hub.book.tick, .int .i64 W.hub.book.next, .int .i64 W.hub.book.wallet, x, y, z, .int .i64 W.hub.ledger.last, l, p, q] rfl) rfl ?_)
  refine (toHub_any _ _ _ _ _ _ _ _ W.hub X0 (V.hub.keep BX) hB.1).mono ?_
  rintro e w1 ⟨⟨F1, u0, u1, u2, u3, u4, u5, u6, u7, rfl, ho1⟩, hb⟩
  have hl := ho1.lt
  replace ho1 := ho1.le hs
  have hnd := ho1.nd
  replace hP := hP.keep hb
  replace hR := hR.keep hb
  replace hO := hO.keep hb
  replace hs := Nat.le_trans hs hb.size
  replace BX := below_via hb BX
  clear hb hl
  obtain ⟨⟨⟨a10, n10, k10, rfl⟩, ⟨a11, n11, k11, rfl⟩⟩, ⟨⟨a12, n12, k12, rfl⟩, ⟨a13, n13, k13, rfl⟩, ⟨a14, n14, k14, rfl⟩⟩, ⟨a15, n15, k15, rfl⟩, ⟨a16, n16, k16, rfl⟩, ⟨a17, n17, k17, rfl⟩⟩ := ho1.form
  go_upto_region 4 with ((show Go.wpList _ _ _ ((Go.Oper.mk _ (Go.Op.store 60 _ _) _ _ _ _) :: _) _ _); refine wpList_store_row infHub rfl _ _ rfl (w.heap.size + 1 + 1) 1 [(.slice a10 n10 k10), (.slice a11 n11 k11), .int .i64 W.hub.log.next, .int .i64 W.hub.log.epoch, .int .i64 W.hub.book.tick, .int .i64 W.hub.book.next, .int .i64 W.hub.book.wallet, (.slice a12 n12 k12), (.slice a13 n13 k13), (.slice a14 n14 k14), .int .i64 W.hub.ledger.last, (.slice a15 n15 k15), (.slice a16 n16 k16), (.slice a17 n17 k17)] rfl rfl (hO.there 1 14 (by exact Nat.le_of_ble_eq_true rfl)) rfl (by intro v hv; simp only [List.mem_cons, List.not_mem_nil, or_false] at hv; rcases hv with rfl | rfl | rfl | rfl | rfl | rfl | rfl | rfl | rfl | rfl | rfl | rfl | rfl | rfl <;> rfl) ?_; have hPx : Bx (w1.setCells (w.heap.size + 1 + 1) 1 [(.slice a10 n10 k10), (.slice a11 n11 k11), .int .i64 W.hub.log.next, .int .i64 W.hub.log.epoch, .int .i64 W.hub.book.tick, .int .i64 W.hub.book.next, .int .i64 W.hub.book.wallet, (.slice a12 n12 k12), (.slice a13 n13 k13), (.slice a14 n14 k14), .int .i64 W.hub.ledger.last, (.slice a15 n15 k15), (.slice a16 n16 k16), (.slice a17 n17 k17)]) w.heap.size [.bool W.up, c, d, .int .i64 W.hub.log.next, .int .i64 W.hub.log.epoch, .int .i64 W.hub.book.tick, .int .i64 W.hub.book.next, .int .i64 W.hub.book.wallet, x, y, z, .int .i64 W.hub.ledger.last, l, p, q, c2, d2, t, s, k] := hP.other (w.heap.size + 1 + 1) 1 [(.slice a10 n10 k10), (.slice a11 n11 k11), .int .i64 W.hub.log.next, .int .i64 W.hub.log.epoch, .int .i64 W.hub.book.tick, .int .i64 W.hub.book.next, .int .i64 W.hub.book.wallet, (.slice a12 n12 k12), (.slice a13 n13 k13), (.slice a14 n14 k14), .int .i64 W.hub.ledger.last, (.slice a15 n15 k15), (.slice a16 n16 k16), (.slice a17 n17 k17)] (by omega); have h2x : Bx (w1.setCells (w.heap.size + 1 + 1) 1 [(.slice a10 n10 k10), (.slice a11 n11 k11), .int .i64 W.hub.log.next, .int .i64 W.hub.log.epoch, .int .i64 W.hub.book.tick, .int .i64 W.hub.book.next, .int .i64 W.hub.book.wallet, (.slice a12 n12 k12), (.slice a13 n13 k13), (.slice a14 n14 k14), .int .i64 W.hub.ledger.last, (.slice a15 n15 k15), (.slice a16 n16 k16), (.slice a17 n17 k17)]) (w.heap.size + 1) [.bool false, .slice none 0 0, .slice none 0 0, .int .i64 0, .int .i64 0, .int .i64 0, .int .i64 0, .int .i64 0, .slice none 0 0, .slice none 0 0, .slice none 0 0, .int .i64 0, .slice none 0 0, .slice none 0 0, .slice none 0 0, .slice none 0 0, .slice none 0 0, .slice none 0 0, .slice none 0 0, .slice none 0 0] := hR.other (w.heap.size + 1 + 1) 1 [(.slice a10 n10 k10), (.slice a11 n11 k11), .int .i64 W.hub.log.next, .int .i64 W.hub.log.epoch, .int .i64 W.hub.book.tick, .int .i64 W.hub.book.next, .int .i64 W.hub.book.wallet, (.slice a12 n12 k12), (.slice a13 n13 k13), (.slice a14 n14 k14), .int .i64 W.hub.ledger.last, (.slice a15 n15 k15), (.slice a16 n16 k16), (.slice a17 n17 k17)] (by omega); have h3x : Bx (w1.setCells (w.heap.size + 1 + 1) 1 [(.slice a10 n10 k10), (.slice a11 n11 k11), .int .i64 W.hub.log.next, .int .i64 W.hub.log.epoch, .int .i64 W.hub.book.tick, .int .i64 W.hub.book.next, .int .i64 W.hub.book.wallet, (.slice a12 n12 k12), (.slice a13 n13 k13), (.slice a14 n14 k14), .int .i64 W.hub.ledger.last, (.slice a15 n15 k15), (.slice a16 n16 k16), (.slice a17 n17 k17)]) (w.heap.size + 1 + 1) (putL [.bool W.up, .slice none 0 0, .slice none 0 0, .int .i64 0, .int .i64 0, .int .i64 0, .int .i64 0, .int .i64 0, .slice none 0 0, .slice none 0 0, .slice none 0 0, .int .i64 0, .slice none 0 0, .slice none 0 0, .slice none 0 0, .slice none 0 0, .slice none 0 0, .slice none 0 0, .slice none 0 0, .slice none 0 0] 1 [(.slice a10 n10 k10), (.slice a11 n11 k11), .int .i64 W.hub.log.next, .int .i64 W.hub.log.epoch, .int .i64 W.hub.book.tick, .int .i64 W.hub.book.next, .int .i64 W.hub.book.wallet, (.slice a12 n12 k12), (.slice a13 n13 k13), (.slice a14 n14 k14), .int .i64 W.hub.ledger.last, (.slice a15 n15 k15), (.slice a16 n16 k16), (.slice a17 n17 k17)]) := hO.set 1 [(.slice a10 n10 k10), (.slice a11 n11 k11), .int .i64 W.hub.log.next, .int .i64 W.hub.log.epoch, .int .i64 W.hub.book.tick, .int .i64 W.hub.book.next, .int .i64 W.hub.book.wallet, (.slice a12 n12 k12), (.slice a13 n13 k13), (.slice a14 n14 k14), .int .i64 W.hub.ledger.last, (.slice a15 n15 k15), (.slice a16 n16 k16), (.slice a17 n17 k17)] (by exact Nat.le_of_ble_eq_true rfl); have exx : Ex [(w.heap.size + 1 + 1)] w1 (w1.setCells (w.heap.size + 1 + 1) 1 [(.slice a10 n10 k10), (.slice a11 n11 k11), .int .i64 W.hub.log.next, .int .i64 W.hub.log.epoch, .int .i64 W.hub.book.tick, .int .i64 W.hub.book.next, .int .i64 W.hub.book.wallet, (.slice a12 n12 k12), (.slice a13 n13 k13), (.slice a14 n14 k14), .int .i64 W.hub.ledger.last, (.slice a15 n15 k15), (.slice a16 n16 k16), (.slice a17 n17 k17)]) := ex_setCells (by simp) [(.slice a10 n10 k10), (.slice a11 n11 k11), .int .i64 W.hub.log.next, .int .i64 W.hub.log.epoch, .int .i64 W.hub.book.tick, .int .i64 W.hub.book.next, .int .i64 W.hub.book.wallet, (.slice a12 n12 k12), (.slice a13 n13 k13), (.slice a14 n14 k14), .int .i64 W.hub.ledger.last, (.slice a15 n15 k15), (.slice a16 n16 k16), (.slice a17 n17 k17)] _ _ _ (Ex.refl _ _); have BXx : Below w.heap.size w (w1.setCells (w.heap.size + 1 + 1) 1 [(.slice a10 n10 k10), (.slice a11 n11 k11), .int .i64 W.hub.log.next, .int .i64 W.hub.log.epoch, .int .i64 W.hub.book.tick, .int .i64 W.hub.book.next, .int .i64 W.hub.book.wallet, (.slice a12 n12 k12), (.slice a13 n13 k13), (.slice a14 n14 k14), .int .i64 W.hub.ledger.last, (.slice a15 n15 k15), (.slice a16 n16 k16), (.slice a17 n17 k17)]) := below_setCells2 (by omega) [(.slice a10 n10 k10), (.slice a11 n11 k11), .int .i64 W.hub.log.next, .int .i64 W.hub.log.epoch, .int .i64 W.hub.book.tick, .int .i64 W.hub.book.next, .int .i64 W.hub.book.wallet, (.slice a12 n12 k12), (.slice a13 n13 k13), (.slice a14 n14 k14), .int .i64 W.hub.ledger.last, (.slice a15 n15 k15), (.slice a16 n16 k16), (.slice a17 n17 k17)] _ _ BX; have ZXx : (w1.setCells (w.heap.size + 1 + 1) 1 [(.slice a10 n10 k10), (.slice a11 n11 k11), .int .i64 W.hub.log.next, .int .i64 W.hub.log.epoch, .int .i64 W.hub.book.tick, .int .i64 W.hub.book.next, .int .i64 W.hub.book.wallet, (.slice a12 n12 k12), (.slice a13 n13 k13), (.slice a14 n14 k14), .int .i64 W.hub.ledger.last, (.slice a15 n15 k15), (.slice a16 n16 k16), (.slice a17 n17 k17)]).heap.size = w1.heap.size := size_setCells2 [(.slice a10 n10 k10), (.slice a11 n11 k11), .int .i64 W.hub.log.next, .int .i64 W.hub.log.epoch, .int .i64 W.hub.book.tick, .int .i64 W.hub.book.next, .int .i64 W.hub.book.wallet, (.slice a12 n12 k12), (.slice a13 n13 k13), (.slice a14 n14 k14), .int .i64 W.hub.ledger.last, (.slice a15 n15 k15), (.slice a16 n16 k16), (.slice a17 n17 k17)] _ _ _; generalize (w1.setCells (w.heap.size + 1 + 1) 1 [(.slice a10 n10 k10), (.slice a11 n11 k11), .int .i64 W.hub.log.next, .int .i64 W.hub.log.epoch, .int .i64 W.hub.book.tick, .int .i64 W.hub.book.next, .int .i64 W.hub.book.wallet, (.slice a12 n12 k12), (.slice a13 n13 k13), (.slice a14 n14 k14), .int .i64 W.hub.ledger.last, (.slice a15 n15 k15), (.slice a16 n16 k16), (.slice a17 n17 k17)]) = X1 at hPx h2x h3x exx BXx ZXx ⊢)
  replace hP := hPx
  replace hR := h2x
  replace hO : Bx X1 (w.heap.size + 1 + 1) [.bool W.up, (.slice a10 n10 k10), (.slice a11 n11 k11), .int .i64 W.hub.log.next, .int .i64 W.hub.log.epoch, .int .i64 W.hub.book.tick, .int .i64 W.hub.book.next, .int .i64 W.hub.book.wallet, (.slice a12 n12 k12), (.slice a13 n13 k13), (.slice a14 n14 k14), .int .i64 W.hub.ledger.last, (.slice a15 n15 k15), (.slice a16 n16 k16), (.slice a17 n17 k17), .slice none 0 0, .slice none 0 0, .slice none 0 0, .slice none 0 0, .slice none 0 0] := h3x
  replace BX := BXx
  replace hs : X0.heap.size ≤ X1.heap.size := by rw [ZXx]; exact hs
  clear hPx h2x h3x BXx ZXx
  replace ho1 := ho1.kept exx (fun k hk hm => by have := (ho1.lt k hk).1; simp only [List.mem_cons, List.not_mem_nil, or_false] at hm; omega)
  clear exx
  go_wp2_with ((show Go.wpList _ _ _ ((Go.Oper.mk _ (Go.Op.load 25 _) _ _ _ _) :: _) _ _); refine wpList_load_row unLDisk infLDisk rfl _ rfl _ _ rfl [c2, d2] (hP.range 15 [c2, d2] rfl) rfl ?_)
  refine (toDisk_any _ _ W.disk X1 (V.disk.keep BX) hB.2.1).mono ?_
  rintro e w2 ⟨⟨F2, u0, u1, rfl, ho2⟩, hb⟩
  have hl := ho2.lt
  replace ho2 := ho2.le hs
  replace hnd := nodup_fresh hnd ho2.nd (n := X1.heap.size) (fun k hk => by
    exact (ho1.lt k hk).2) (fun k hk => (hl k hk).1)
  replace ho1 := ho1.keep hb
  replace hP := hP.keep hb
  replace hR := hR.keep hb
  replace hO := hO.keep hb
  replace hs := Nat.le_trans hs hb.size
  replace BX := below_via hb BX
  clear hb hl
  obtain ⟨⟨a20, n20, k20, rfl⟩, ⟨a21, n21, k21, rfl⟩⟩ := ho2.form
  go_upto_region 5 with ((show Go.wpList _ _ _ ((Go.Oper.mk _ (Go.Op.store 47 _ _) _ _ _ _) :: _) _ _); refine wpList_store_row infDisk rfl _ _ rfl (w.heap.size + 1 + 1) 15 [(.slice a20 n20 k20), (.slice a21 n21 k21)] rfl rfl (hO.there 15 2 (by exact Nat.le_of_ble_eq_true rfl)) rfl (by intro v hv; simp only [List.mem_cons, List.not_mem_nil, or_false] at hv; rcases hv with rfl | rfl <;> rfl) ?_; have hPx : Bx (w2.setCells (w.heap.size + 1 + 1) 15 [(.slice a20 n20 k20), (.slice a21 n21 k21)]) w.heap.size [.bool W.up, c, d, .int .i64 W.hub.log.next, .int .i64 W.hub.log.epoch, .int .i64 W.hub.book.tick, .int .i64 W.hub.book.next, .int .i64 W.hub.book.wallet, x, y, z, .int .i64 W.hub.ledger.last, l, p, q, c2, d2, t, s, k] := hP.other (w.heap.size + 1 + 1) 15 [(.slice a20 n20 k20), (.slice a21 n21 k21)] (by omega); have h2x : Bx (w2.setCells (w.heap.size + 1 + 1) 15 [(.slice a20 n20 k20), (.slice a21 n21 k21)]) (w.heap.size + 1) [.bool false, .slice none 0 0, .slice none 0 0, .int .i64 0, .int .i64 0, .int .i64 0, .int .i64 0, .int .i64 0, .slice none 0 0, .slice none 0 0, .slice none 0 0, .int .i64 0, .slice none 0 0, .slice none 0 0, .slice none 0 0, .slice none 0 0, .slice none 0 0, .slice none 0 0, .slice none 0 0, .slice none 0 0] := hR.other (w.heap.size + 1 + 1) 15 [(.slice a20 n20 k20), (.slice a21 n21 k21)] (by omega); have h3x : Bx (w2.setCells (w.heap.size + 1 + 1) 15 [(.slice a20 n20 k20), (.slice a21 n21 k21)]) (w.heap.size + 1 + 1) (putL [.bool W.up, (.slice a10 n10 k10), (.slice a11 n11 k11), .int .i64 W.hub.log.next, .int .i64 W.hub.log.epoch, .int .i64 W.hub.book.tick, .int .i64 W.hub.book.next, .int .i64 W.hub.book.wallet, (.slice a12 n12 k12), (.slice a13 n13 k13), (.slice a14 n14 k14), .int .i64 W.hub.ledger.last, (.slice a15 n15 k15), (.slice a16 n16 k16), (.slice a17 n17 k17), .slice none 0 0, .slice none 0 0, .slice none 0 0, .slice none 0 0, .slice none 0 0] 15 [(.slice a20 n20 k20), (.slice a21 n21 k21)]) := hO.set 15 [(.slice a20 n20 k20), (.slice a21 n21 k21)] (by exact Nat.le_of_ble_eq_true rfl); have exx : Ex [(w.heap.size + 1 + 1)] w2 (w2.setCells (w.heap.size + 1 + 1) 15 [(.slice a20 n20 k20), (.slice a21 n21 k21)]) := ex_setCells (by simp) [(.slice a20 n20 k20), (.slice a21 n21 k21)] _ _ _ (Ex.refl _ _); have BXx : Below w.heap.size w (w2.setCells (w.heap.size + 1 + 1) 15 [(.slice a20 n20 k20), (.slice a21 n21 k21)]) := below_setCells2 (by omega) [(.slice a20 n20 k20), (.slice a21 n21 k21)] _ _ BX; have ZXx : (w2.setCells (w.heap.size + 1 + 1) 15 [(.slice a20 n20 k20), (.slice a21 n21 k21)]).heap.size = w2.heap.size := size_setCells2 [(.slice a20 n20 k20), (.slice a21 n21 k21)] _ _ _; generalize (w2.setCells (w.heap.size + 1 + 1) 15 [(.slice a20 n20 k20), (.slice a21 n21 k21)]) = X2 at hPx h2x h3x exx BXx ZXx ⊢)
  replace hP := hPx
  replace hR := h2x
  replace hO : Bx X2 (w.heap.size + 1 + 1) [.bool W.up, (.slice a10 n10 k10), (.slice a11 n11 k11), .int .i64 W.hub.log.next, .int .i64 W.hub.log.epoch, .int .i64 W.hub.book.tick, .int .i64 W.hub.book.next, .int .i64 W.hub.book.wallet, (.slice a12 n12 k12), (.slice a13 n13 k13), (.slice a14 n14 k14), .int .i64 W.hub.ledger.last, (.slice a15 n15 k15), (.slice a16 n16 k16), (.slice a17 n17 k17), (.slice a20 n20 k20), (.slice a21 n21 k21), .slice none 0 0, .slice none 0 0, .slice none 0 0] := h3x
  replace BX := BXx
  replace hs : X0.heap.size ≤ X2.heap.size := by rw [ZXx]; exact hs
  clear hPx h2x h3x BXx ZXx
  replace ho1 := ho1.kept exx (fun k hk hm => by have := (ho1.lt k hk).1; simp only [List.mem_cons, List.not_mem_nil, or_false] at hm; omega)
  replace ho2 := ho2.kept exx (fun k hk hm => by have := (ho2.lt k hk).1; simp only [List.mem_cons, List.not_mem_nil, or_false] at hm; omega)
  clear exx
  have p3 := hP.cell 17 (t) rfl
  go_wp2_with fail
  refine (toEventS_o _ W.took X2 (V.took.keep BX) hB.2.2.1).mono ?_
  rintro e w3 ⟨⟨F3, u0, rfl, ho3⟩, hb⟩
  have hl := ho3.lt
  replace ho3 := ho3.le hs
  clear p3
  replace hnd := nodup_fresh hnd ho3.nd (n := X2.heap.size) (fun k hk => by
    rcases List.mem_append.1 hk with hk | hk
    rotate_left
    · exact (ho2.lt k hk).2
    exact (ho1.lt k hk).2) (fun k hk => (hl k hk).1)
  replace ho1 := ho1.keep hb
  replace ho2 := ho2.keep hb
  replace hP := hP.keep hb
  replace hR := hR.keep hb
  replace hO := hO.keep hb
  replace hs := Nat.le_trans hs hb.size
  replace BX := below_via hb BX
  clear hb hl
  obtain ⟨a30, n30, k30, rfl⟩ := ho3.form
  have o3 := hO.cell 17 (.slice none 0 0) rfl
  have q3 := hO.fz 17 (by exact Nat.le_of_ble_eq_true rfl)
  go_upto_region 6 with fail
  clear o3 q3
  have hPx : Bx (w3.setCell ⟨(w.heap.size + 1 + 1), 17, none⟩ (.slice a30 n30 k30)) w.heap.size [.bool W.up, c, d, .int .i64 W.hub.log.next, .int .i64 W.hub.log.epoch, .int .i64 W.hub.book.tick, .int .i64 W.hub.book.next, .int .i64 W.hub.book.wallet, x, y, z, .int .i64 W.hub.ledger.last, l, p, q, c2, d2, t, s, k] := hP.other (w.heap.size + 1 + 1) 17 [(.slice a30 n30 k30)] (by omega)
  have h2x : Bx (w3.setCell ⟨(w.heap.size + 1 + 1), 17, none⟩ (.slice a30 n30 k30)) (w.heap.size + 1) [.bool false, .slice none 0 0, .slice none 0 0, .int .i64 0, .int .i64 0, .int .i64 0, .int .i64 0, .int .i64 0, .slice none 0 0, .slice none 0 0, .slice none 0 0, .int .i64 0, .slice none 0 0, .slice none 0 0, .slice none 0 0, .slice none 0 0, .slice none 0 0, .slice none 0 0, .slice none 0 0, .slice none 0 0] := hR.other (w.heap.size + 1 + 1) 17 [(.slice a30 n30 k30)] (by omega)
  have h3x : Bx (w3.setCell ⟨(w.heap.size + 1 + 1), 17, none⟩ (.slice a30 n30 k30)) (w.heap.size + 1 + 1) (putL [.bool W.up, (.slice a10 n10 k10), (.slice a11 n11 k11), .int .i64 W.hub.log.next, .int .i64 W.hub.log.epoch, .int .i64 W.hub.book.tick, .int .i64 W.hub.book.next, .int .i64 W.hub.book.wallet, (.slice a12 n12 k12), (.slice a13 n13 k13), (.slice a14 n14 k14), .int .i64 W.hub.ledger.last, (.slice a15 n15 k15), (.slice a16 n16 k16), (.slice a17 n17 k17), (.slice a20 n20 k20), (.slice a21 n21 k21), .slice none 0 0, .slice none 0 0, .slice none 0 0] 17 [(.slice a30 n30 k30)]) := hO.set 17 [(.slice a30 n30 k30)] (by exact Nat.le_of_ble_eq_true rfl)
  have exx : Ex [(w.heap.size + 1 + 1)] w3 (w3.setCell ⟨(w.heap.size + 1 + 1), 17, none⟩ (.slice a30 n30 k30)) := ex_setCells (by simp) [(.slice a30 n30 k30)] _ _ _ (Ex.refl _ _)
  have BXx : Below w.heap.size w (w3.setCell ⟨(w.heap.size + 1 + 1), 17, none⟩ (.slice a30 n30 k30)) := below_setCells2 (by omega) [(.slice a30 n30 k30)] _ _ BX
  have ZXx : (w3.setCell ⟨(w.heap.size + 1 + 1), 17, none⟩ (.slice a30 n30 k30)).heap.size = w3.heap.size := size_setCells2 [(.slice a30 n30 k30)] _ _ _
  generalize (w3.setCell ⟨(w.heap.size + 1 + 1), 17, none⟩ (.slice a30 n30 k30)) = X3 at hPx h2x h3x exx BXx ZXx ⊢
  replace hP := hPx
  replace hR := h2x
  replace hO : Bx X3 (w.heap.size + 1 + 1) [.bool W.up, (.slice a10 n10 k10), (.slice a11 n11 k11), .int .i64 W.hub.log.next, .int .i64 W.hub.log.epoch, .int .i64 W.hub.book.tick, .int .i64 W.hub.book.next, .int .i64 W.hub.book.wallet, (.slice a12 n12 k12), (.slice a13 n13 k13), (.slice a14 n14 k14), .int .i64 W.hub.ledger.last, (.slice a15 n15 k15), (.slice a16 n16 k16), (.slice a17 n17 k17), (.slice a20 n20 k20), (.slice a21 n21 k21), (.slice a30 n30 k30), .slice none 0 0, .slice none 0 0] := h3x
  replace BX := BXx
  replace hs : X0.heap.size ≤ X3.heap.size := by rw [ZXx]; exact hs
  clear hPx h2x h3x BXx ZXx
  replace ho1 := ho1.kept exx (fun k hk hm => by have := (ho1.lt k hk).1; simp only [List.mem_cons, List.not_mem_nil, or_false] at hm; omega)
  replace ho2 := ho2.kept exx (fun k hk hm => by have := (ho2.lt k hk).1; simp only [List.mem_cons, List.not_mem_nil, or_false] at hm; omega)
  replace ho3 := ho3.kept exx (fun k hk hm => by have := (ho3.lt k hk).1; simp only [List.mem_cons, List.not_mem_nil, or_false] at hm; omega)
  clear exx
  have p4 := hP.cell 18 (s) rfl
  go_wp2_with fail
  refine (toEventS_o _ W.sent X3 (V.sent.keep BX) hB.2.2.2.1).mono ?_
  rintro e w4 ⟨⟨F4, u0, rfl, ho4⟩, hb⟩
  have hl := ho4.lt
  replace ho4 := ho4.le hs
  clear p4
  replace hnd := nodup_fresh hnd ho4.nd (n := X3.heap.size) (fun k hk => by
    rcases List.mem_append.1 hk with hk | hk
    rotate_left
    · exact (ho3.lt k hk).2
    rcases List.mem_append.1 hk with hk | hk
    rotate_left
    · exact (ho2.lt k hk).2
    exact (ho1.lt k hk).2) (fun k hk => (hl k hk).1)
  replace ho1 := ho1.keep hb
  replace ho2 := ho2.keep hb
  replace ho3 := ho3.keep hb
  replace hP := hP.keep hb
  replace hR := hR.keep hb
  replace hO := hO.keep hb
  replace hs := Nat.le_trans hs hb.size
  replace BX := below_via hb BX
  clear hb hl
  obtain ⟨a40, n40, k40, rfl⟩ := ho4.form
  have o4 := hO.cell 18 (.slice none 0 0) rfl
  have q4 := hO.fz 18 (by exact Nat.le_of_ble_eq_true rfl)
  go_upto_region 7 with fail
  clear o4 q4
  have hPx : Bx (w4.setCell ⟨(w.heap.size + 1 + 1), 18, none⟩ (.slice a40 n40 k40)) w.heap.size [.bool W.up, c, d, .int .i64 W.hub.log.next, .int .i64 W.hub.log.epoch, .int .i64 W.hub.book.tick, .int .i64 W.hub.book.next, .int .i64 W.hub.book.wallet, x, y, z, .int .i64 W.hub.ledger.last, l, p, q, c2, d2, t, s, k] := hP.other (w.heap.size + 1 + 1) 18 [(.slice a40 n40 k40)] (by omega)
  have h2x : Bx (w4.setCell ⟨(w.heap.size + 1 + 1), 18, none⟩ (.slice a40 n40 k40)) (w.heap.size + 1) [.bool false, .slice none 0 0, .slice none 0 0, .int .i64 0, .int .i64 0, .int .i64 0, .int .i64 0, .int .i64 0, .slice none 0 0, .slice none 0 0, .slice none 0 0, .int .i64 0, .slice none 0 0, .slice none 0 0, .slice none 0 0, .slice none 0 0, .slice none 0 0, .slice none 0 0, .slice none 0 0, .slice none 0 0] := hR.other (w.heap.size + 1 + 1) 18 [(.slice a40 n40 k40)] (by omega)
  have h3x : Bx (w4.setCell ⟨(w.heap.size + 1 + 1), 18, none⟩ (.slice a40 n40 k40)) (w.heap.size + 1 + 1) (putL [.bool W.up, (.slice a10 n10 k10), (.slice a11 n11 k11), .int .i64 W.hub.log.next, .int .i64 W.hub.log.epoch, .int .i64 W.hub.book.tick, .int .i64 W.hub.book.next, .int .i64 W.hub.book.wallet, (.slice a12 n12 k12), (.slice a13 n13 k13), (.slice a14 n14 k14), .int .i64 W.hub.ledger.last, (.slice a15 n15 k15), (.slice a16 n16 k16), (.slice a17 n17 k17), (.slice a20 n20 k20), (.slice a21 n21 k21), (.slice a30 n30 k30), .slice none 0 0, .slice none 0 0] 18 [(.slice a40 n40 k40)]) := hO.set 18 [(.slice a40 n40 k40)] (by exact Nat.le_of_ble_eq_true rfl)
  have exx : Ex [(w.heap.size + 1 + 1)] w4 (w4.setCell ⟨(w.heap.size + 1 + 1), 18, none⟩ (.slice a40 n40 k40)) := ex_setCells (by simp) [(.slice a40 n40 k40)] _ _ _ (Ex.refl _ _)
  have BXx : Below w.heap.size w (w4.setCell ⟨(w.heap.size + 1 + 1), 18, none⟩ (.slice a40 n40 k40)) := below_setCells2 (by omega) [(.slice a40 n40 k40)] _ _ BX
  have ZXx : (w4.setCell ⟨(w.heap.size + 1 + 1), 18, none⟩ (.slice a40 n40 k40)).heap.size = w4.heap.size := size_setCells2 [(.slice a40 n40 k40)] _ _ _
  generalize (w4.setCell ⟨(w.heap.size + 1 + 1), 18, none⟩ (.slice a40 n40 k40)) = X4 at hPx h2x h3x exx BXx ZXx ⊢
  replace hP := hPx
  replace hR := h2x
  replace hO : Bx X4 (w.heap.size + 1 + 1) [.bool W.up, (.slice a10 n10 k10), (.slice a11 n11 k11), .int .i64 W.hub.log.next, .int .i64 W.hub.log.epoch, .int .i64 W.hub.book.tick, .int .i64 W.hub.book.next, .int .i64 W.hub.book.wallet, (.slice a12 n12 k12), (.slice a13 n13 k13), (.slice a14 n14 k14), .int .i64 W.hub.ledger.last, (.slice a15 n15 k15), (.slice a16 n16 k16), (.slice a17 n17 k17), (.slice a20 n20 k20), (.slice a21 n21 k21), (.slice a30 n30 k30), (.slice a40 n40 k40), .slice none 0 0] := h3x
  replace BX := BXx
  replace hs : X0.heap.size ≤ X4.heap.size := by rw [ZXx]; exact hs
  clear hPx h2x h3x BXx ZXx
  replace ho1 := ho1.kept exx (fun k hk hm => by have := (ho1.lt k hk).1; simp only [List.mem_cons, List.not_mem_nil, or_false] at hm; omega)
  replace ho2 := ho2.kept exx (fun k hk hm => by have := (ho2.lt k hk).1; simp only [List.mem_cons, List.not_mem_nil, or_false] at hm; omega)
  replace ho3 := ho3.kept exx (fun k hk hm => by have := (ho3.lt k hk).1; simp only [List.mem_cons, List.not_mem_nil, or_false] at hm; omega)
  replace ho4 := ho4.kept exx (fun k hk hm => by have := (ho4.lt k hk).1; simp only [List.mem_cons, List.not_mem_nil, or_false] at hm; omega)
  clear exx
  have p5 := hP.cell 19 (k) rfl
  go_wp2_with fail
  refine (toIntS_o _ W.codes X4 (V.codes.keep BX) hB.2.2.2.2).mono ?_
  rintro e w5 ⟨⟨F5, u0, rfl, ho5⟩, hb⟩
  have hl := ho5.lt
  replace ho5 := ho5.le hs
  clear p5
  replace hnd := nodup_fresh hnd ho5.nd (n := X4.heap.size) (fun k hk => by
    rcases List.mem_append.1 hk with hk | hk
    rotate_left
    · exact (ho4.lt k hk).2
    rcases List.mem_append.1 hk with hk | hk
    rotate_left
    · exact (ho3.lt k hk).2
    rcases List.mem_append.1 hk with hk | hk
    rotate_left
    · exact (ho2.lt k hk).2
    exact (ho1.lt k hk).2) (fun k hk => (hl k hk).1)
  replace ho1 := ho1.keep hb
  replace ho2 := ho2.keep hb
  replace ho3 := ho3.keep hb
  replace ho4 := ho4.keep hb
  replace hP := hP.keep hb
  replace hR := hR.keep hb
  replace hO := hO.keep hb
  replace hs := Nat.le_trans hs hb.size
  replace BX := below_via hb BX
  clear hb hl
  obtain ⟨a50, n50, k50, rfl⟩ := ho5.form
  have o5 := hO.cell 19 (.slice none 0 0) rfl
  have q5 := hO.fz 19 (by exact Nat.le_of_ble_eq_true rfl)
  go_upto_region 8 with fail
  clear o5 q5
  have hPx : Bx (w5.setCell ⟨(w.heap.size + 1 + 1), 19, none⟩ (.slice a50 n50 k50)) w.heap.size [.bool W.up, c, d, .int .i64 W.hub.log.next, .int .i64 W.hub.log.epoch, .int .i64 W.hub.book.tick, .int .i64 W.hub.book.next, .int .i64 W.hub.book.wallet, x, y, z, .int .i64 W.hub.ledger.last, l, p, q, c2, d2, t, s, k] := hP.other (w.heap.size + 1 + 1) 19 [(.slice a50 n50 k50)] (by omega)
  have h2x : Bx (w5.setCell ⟨(w.heap.size + 1 + 1), 19, none⟩ (.slice a50 n50 k50)) (w.heap.size + 1) [.bool false, .slice none 0 0, .slice none 0 0, .int .i64 0, .int .i64 0, .int .i64 0, .int .i64 0, .int .i64 0, .slice none 0 0, .slice none 0 0, .slice none 0 0, .int .i64 0, .slice none 0 0, .slice none 0 0, .slice none 0 0, .slice none 0 0, .slice none 0 0, .slice none 0 0, .slice none 0 0, .slice none 0 0] := hR.other (w.heap.size + 1 + 1) 19 [(.slice a50 n50 k50)] (by omega)
  have h3x : Bx (w5.setCell ⟨(w.heap.size + 1 + 1), 19, none⟩ (.slice a50 n50 k50)) (w.heap.size + 1 + 1) (putL [.bool W.up, (.slice a10 n10 k10), (.slice a11 n11 k11), .int .i64 W.hub.log.next, .int .i64 W.hub.log.epoch, .int .i64 W.hub.book.tick, .int .i64 W.hub.book.next, .int .i64 W.hub.book.wallet, (.slice a12 n12 k12), (.slice a13 n13 k13), (.slice a14 n14 k14), .int .i64 W.hub.ledger.last, (.slice a15 n15 k15), (.slice a16 n16 k16), (.slice a17 n17 k17), (.slice a20 n20 k20), (.slice a21 n21 k21), (.slice a30 n30 k30), (.slice a40 n40 k40), .slice none 0 0] 19 [(.slice a50 n50 k50)]) := hO.set 19 [(.slice a50 n50 k50)] (by exact Nat.le_of_ble_eq_true rfl)
  have exx : Ex [(w.heap.size + 1 + 1)] w5 (w5.setCell ⟨(w.heap.size + 1 + 1), 19, none⟩ (.slice a50 n50 k50)) := ex_setCells (by simp) [(.slice a50 n50 k50)] _ _ _ (Ex.refl _ _)
  have BXx : Below w.heap.size w (w5.setCell ⟨(w.heap.size + 1 + 1), 19, none⟩ (.slice a50 n50 k50)) := below_setCells2 (by omega) [(.slice a50 n50 k50)] _ _ BX
  have ZXx : (w5.setCell ⟨(w.heap.size + 1 + 1), 19, none⟩ (.slice a50 n50 k50)).heap.size = w5.heap.size := size_setCells2 [(.slice a50 n50 k50)] _ _ _
  generalize (w5.setCell ⟨(w.heap.size + 1 + 1), 19, none⟩ (.slice a50 n50 k50)) = X5 at hPx h2x h3x exx BXx ZXx ⊢
  replace hP := hPx
  replace hR := h2x
  replace hO : Bx X5 (w.heap.size + 1 + 1) [.bool W.up, (.slice a10 n10 k10), (.slice a11 n11 k11), .int .i64 W.hub.log.next, .int .i64 W.hub.log.epoch, .int .i64 W.hub.book.tick, .int .i64 W.hub.book.next, .int .i64 W.hub.book.wallet, (.slice a12 n12 k12), (.slice a13 n13 k13), (.slice a14 n14 k14), .int .i64 W.hub.ledger.last, (.slice a15 n15 k15), (.slice a16 n16 k16), (.slice a17 n17 k17), (.slice a20 n20 k20), (.slice a21 n21 k21), (.slice a30 n30 k30), (.slice a40 n40 k40), (.slice a50 n50 k50)] := h3x
  replace BX := BXx
  replace hs : X0.heap.size ≤ X5.heap.size := by rw [ZXx]; exact hs
  clear hPx h2x h3x BXx ZXx
  replace ho1 := ho1.kept exx (fun k hk hm => by have := (ho1.lt k hk).1; simp only [List.mem_cons, List.not_mem_nil, or_false] at hm; omega)
  replace ho2 := ho2.kept exx (fun k hk hm => by have := (ho2.lt k hk).1; simp only [List.mem_cons, List.not_mem_nil, or_false] at hm; omega)
  replace ho3 := ho3.kept exx (fun k hk hm => by have := (ho3.lt k hk).1; simp only [List.mem_cons, List.not_mem_nil, or_false] at hm; omega)
  replace ho4 := ho4.kept exx (fun k hk hm => by have := (ho4.lt k hk).1; simp only [List.mem_cons, List.not_mem_nil, or_false] at hm; omega)
  replace ho5 := ho5.kept exx (fun k hk hm => by have := (ho5.lt k hk).1; simp only [List.mem_cons, List.not_mem_nil, or_false] at hm; omega)
  clear exx
  go_wp2_with (first
    | ((show Go.wpList _ _ _ ((Go.Oper.mk _ (Go.Op.load 62 _) _ _ _ _) :: _) _ _); refine wpList_load_row unWorld infWorld rfl _ rfl _ _ rfl [.bool W.up, (.slice a10 n10 k10), (.slice a11 n11 k11), .int .i64 W.hub.log.next, .int .i64 W.hub.log.epoch, .int .i64 W.hub.book.tick, .int .i64 W.hub.book.next, .int .i64 W.hub.book.wallet, (.slice a12 n12 k12), (.slice a13 n13 k13), (.slice a14 n14 k14), .int .i64 W.hub.ledger.last, (.slice a15 n15 k15), (.slice a16 n16 k16), (.slice a17 n17 k17), (.slice a20 n20 k20), (.slice a21 n21 k21), (.slice a30 n30 k30), (.slice a40 n40 k40), (.slice a50 n50 k50)] (hO.range 0 [.bool W.up, (.slice a10 n10 k10), (.slice a11 n11 k11), .int .i64 W.hub.log.next, .int .i64 W.hub.log.epoch, .int .i64 W.hub.book.tick, .int .i64 W.hub.book.next, .int .i64 W.hub.book.wallet, (.slice a12 n12 k12), (.slice a13 n13 k13), (.slice a14 n14 k14), .int .i64 W.hub.ledger.last, (.slice a15 n15 k15), (.slice a16 n16 k16), (.slice a17 n17 k17), (.slice a20 n20 k20), (.slice a21 n21 k21), (.slice a30 n30 k30), (.slice a40 n40 k40), (.slice a50 n50 k50)] rfl) rfl ?_)
    | ((show Go.wpList _ _ _ ((Go.Oper.mk _ (Go.Op.store 62 _ _) _ _ _ _) :: _) _ _); refine wpList_store_row infWorld rfl _ _ rfl (w.heap.size + 1) 0 [.bool W.up, (.slice a10 n10 k10), (.slice a11 n11 k11), .int .i64 W.hub.log.next, .int .i64 W.hub.log.epoch, .int .i64 W.hub.book.tick, .int .i64 W.hub.book.next, .int .i64 W.hub.book.wallet, (.slice a12 n12 k12), (.slice a13 n13 k13), (.slice a14 n14 k14), .int .i64 W.hub.ledger.last, (.slice a15 n15 k15), (.slice a16 n16 k16), (.slice a17 n17 k17), (.slice a20 n20 k20), (.slice a21 n21 k21), (.slice a30 n30 k30), (.slice a40 n40 k40), (.slice a50 n50 k50)] rfl rfl (hR.there 0 20 (by exact Nat.le_of_ble_eq_true rfl)) rfl (by intro v hv; simp only [List.mem_cons, List.not_mem_nil, or_false] at hv; rcases hv with rfl | rfl | rfl | rfl | rfl | rfl | rfl | rfl | rfl | rfl | rfl | rfl | rfl | rfl | rfl | rfl | rfl | rfl | rfl | rfl <;> rfl) ?_; have hPx : Bx (X5.setCells (w.heap.size + 1) 0 [.bool W.up, (.slice a10 n10 k10), (.slice a11 n11 k11), .int .i64 W.hub.log.next, .int .i64 W.hub.log.epoch, .int .i64 W.hub.book.tick, .int .i64 W.hub.book.next, .int .i64 W.hub.book.wallet, (.slice a12 n12 k12), (.slice a13 n13 k13), (.slice a14 n14 k14), .int .i64 W.hub.ledger.last, (.slice a15 n15 k15), (.slice a16 n16 k16), (.slice a17 n17 k17), (.slice a20 n20 k20), (.slice a21 n21 k21), (.slice a30 n30 k30), (.slice a40 n40 k40), (.slice a50 n50 k50)]) w.heap.size [.bool W.up, c, d, .int .i64 W.hub.log.next, .int .i64 W.hub.log.epoch, .int .i64 W.hub.book.tick, .int .i64 W.hub.book.next, .int .i64 W.hub.book.wallet, x, y, z, .int .i64 W.hub.ledger.last, l, p, q, c2, d2, t, s, k] := hP.other (w.heap.size + 1) 0 [.bool W.up, (.slice a10 n10 k10), (.slice a11 n11 k11), .int .i64 W.hub.log.next, .int .i64 W.hub.log.epoch, .int .i64 W.hub.book.tick, .int .i64 W.hub.book.next, .int .i64 W.hub.book.wallet, (.slice a12 n12 k12), (.slice a13 n13 k13), (.slice a14 n14 k14), .int .i64 W.hub.ledger.last, (.slice a15 n15 k15), (.slice a16 n16 k16), (.slice a17 n17 k17), (.slice a20 n20 k20), (.slice a21 n21 k21), (.slice a30 n30 k30), (.slice a40 n40 k40), (.slice a50 n50 k50)] (by omega); have h2x : Bx (X5.setCells (w.heap.size + 1) 0 [.bool W.up, (.slice a10 n10 k10), (.slice a11 n11 k11), .int .i64 W.hub.log.next, .int .i64 W.hub.log.epoch, .int .i64 W.hub.book.tick, .int .i64 W.hub.book.next, .int .i64 W.hub.book.wallet, (.slice a12 n12 k12), (.slice a13 n13 k13), (.slice a14 n14 k14), .int .i64 W.hub.ledger.last, (.slice a15 n15 k15), (.slice a16 n16 k16), (.slice a17 n17 k17), (.slice a20 n20 k20), (.slice a21 n21 k21), (.slice a30 n30 k30), (.slice a40 n40 k40), (.slice a50 n50 k50)]) (w.heap.size + 1 + 1) [.bool W.up, (.slice a10 n10 k10), (.slice a11 n11 k11), .int .i64 W.hub.log.next, .int .i64 W.hub.log.epoch, .int .i64 W.hub.book.tick, .int .i64 W.hub.book.next, .int .i64 W.hub.book.wallet, (.slice a12 n12 k12), (.slice a13 n13 k13), (.slice a14 n14 k14), .int .i64 W.hub.ledger.last, (.slice a15 n15 k15), (.slice a16 n16 k16), (.slice a17 n17 k17), (.slice a20 n20 k20), (.slice a21 n21 k21), (.slice a30 n30 k30), (.slice a40 n40 k40), (.slice a50 n50 k50)] := hO.other (w.heap.size + 1) 0 [.bool W.up, (.slice a10 n10 k10), (.slice a11 n11 k11), .int .i64 W.hub.log.next, .int .i64 W.hub.log.epoch, .int .i64 W.hub.book.tick, .int .i64 W.hub.book.next, .int .i64 W.hub.book.wallet, (.slice a12 n12 k12), (.slice a13 n13 k13), (.slice a14 n14 k14), .int .i64 W.hub.ledger.last, (.slice a15 n15 k15), (.slice a16 n16 k16), (.slice a17 n17 k17), (.slice a20 n20 k20), (.slice a21 n21 k21), (.slice a30 n30 k30), (.slice a40 n40 k40), (.slice a50 n50 k50)] (by omega); have h3x : Bx (X5.setCells (w.heap.size + 1) 0 [.bool W.up, (.slice a10 n10 k10), (.slice a11 n11 k11), .int .i64 W.hub.log.next, .int .i64 W.hub.log.epoch, .int .i64 W.hub.book.tick, .int .i64 W.hub.book.next, .int .i64 W.hub.book.wallet, (.slice a12 n12 k12), (.slice a13 n13 k13), (.slice a14 n14 k14), .int .i64 W.hub.ledger.last, (.slice a15 n15 k15), (.slice a16 n16 k16), (.slice a17 n17 k17), (.slice a20 n20 k20), (.slice a21 n21 k21), (.slice a30 n30 k30), (.slice a40 n40 k40), (.slice a50 n50 k50)]) (w.heap.size + 1) (putL [.bool false, .slice none 0 0, .slice none 0 0, .int .i64 0, .int .i64 0, .int .i64 0, .int .i64 0, .int .i64 0, .slice none 0 0, .slice none 0 0, .slice none 0 0, .int .i64 0, .slice none 0 0, .slice none 0 0, .slice none 0 0, .slice none 0 0, .slice none 0 0, .slice none 0 0, .slice none 0 0, .slice none 0 0] 0 [.bool W.up, (.slice a10 n10 k10), (.slice a11 n11 k11), .int .i64 W.hub.log.next, .int .i64 W.hub.log.epoch, .int .i64 W.hub.book.tick, .int .i64 W.hub.book.next, .int .i64 W.hub.book.wallet, (.slice a12 n12 k12), (.slice a13 n13 k13), (.slice a14 n14 k14), .int .i64 W.hub.ledger.last, (.slice a15 n15 k15), (.slice a16 n16 k16), (.slice a17 n17 k17), (.slice a20 n20 k20), (.slice a21 n21 k21), (.slice a30 n30 k30), (.slice a40 n40 k40), (.slice a50 n50 k50)]) := hR.set 0 [.bool W.up, (.slice a10 n10 k10), (.slice a11 n11 k11), .int .i64 W.hub.log.next, .int .i64 W.hub.log.epoch, .int .i64 W.hub.book.tick, .int .i64 W.hub.book.next, .int .i64 W.hub.book.wallet, (.slice a12 n12 k12), (.slice a13 n13 k13), (.slice a14 n14 k14), .int .i64 W.hub.ledger.last, (.slice a15 n15 k15), (.slice a16 n16 k16), (.slice a17 n17 k17), (.slice a20 n20 k20), (.slice a21 n21 k21), (.slice a30 n30 k30), (.slice a40 n40 k40), (.slice a50 n50 k50)] (by exact Nat.le_of_ble_eq_true rfl); have exx : Ex [(w.heap.size + 1)] X5 (X5.setCells (w.heap.size + 1) 0 [.bool W.up, (.slice a10 n10 k10), (.slice a11 n11 k11), .int .i64 W.hub.log.next, .int .i64 W.hub.log.epoch, .int .i64 W.hub.book.tick, .int .i64 W.hub.book.next, .int .i64 W.hub.book.wallet, (.slice a12 n12 k12), (.slice a13 n13 k13), (.slice a14 n14 k14), .int .i64 W.hub.ledger.last, (.slice a15 n15 k15), (.slice a16 n16 k16), (.slice a17 n17 k17), (.slice a20 n20 k20), (.slice a21 n21 k21), (.slice a30 n30 k30), (.slice a40 n40 k40), (.slice a50 n50 k50)]) := ex_setCells (by simp) [.bool W.up, (.slice a10 n10 k10), (.slice a11 n11 k11), .int .i64 W.hub.log.next, .int .i64 W.hub.log.epoch, .int .i64 W.hub.book.tick, .int .i64 W.hub.book.next, .int .i64 W.hub.book.wallet, (.slice a12 n12 k12), (.slice a13 n13 k13), (.slice a14 n14 k14), .int .i64 W.hub.ledger.last, (.slice a15 n15 k15), (.slice a16 n16 k16), (.slice a17 n17 k17), (.slice a20 n20 k20), (.slice a21 n21 k21), (.slice a30 n30 k30), (.slice a40 n40 k40), (.slice a50 n50 k50)] _ _ _ (Ex.refl _ _); have BXx : Below w.heap.size w (X5.setCells (w.heap.size + 1) 0 [.bool W.up, (.slice a10 n10 k10), (.slice a11 n11 k11), .int .i64 W.hub.log.next, .int .i64 W.hub.log.epoch, .int .i64 W.hub.book.tick, .int .i64 W.hub.book.next, .int .i64 W.hub.book.wallet, (.slice a12 n12 k12), (.slice a13 n13 k13), (.slice a14 n14 k14), .int .i64 W.hub.ledger.last, (.slice a15 n15 k15), (.slice a16 n16 k16), (.slice a17 n17 k17), (.slice a20 n20 k20), (.slice a21 n21 k21), (.slice a30 n30 k30), (.slice a40 n40 k40), (.slice a50 n50 k50)]) := below_setCells2 (by omega) [.bool W.up, (.slice a10 n10 k10), (.slice a11 n11 k11), .int .i64 W.hub.log.next, .int .i64 W.hub.log.epoch, .int .i64 W.hub.book.tick, .int .i64 W.hub.book.next, .int .i64 W.hub.book.wallet, (.slice a12 n12 k12), (.slice a13 n13 k13), (.slice a14 n14 k14), .int .i64 W.hub.ledger.last, (.slice a15 n15 k15), (.slice a16 n16 k16), (.slice a17 n17 k17), (.slice a20 n20 k20), (.slice a21 n21 k21), (.slice a30 n30 k30), (.slice a40 n40 k40), (.slice a50 n50 k50)] _ _ BX; have ZXx : (X5.setCells (w.heap.size + 1) 0 [.bool W.up, (.slice a10 n10 k10), (.slice a11 n11 k11), .int .i64 W.hub.log.next, .int .i64 W.hub.log.epoch, .int .i64 W.hub.book.tick, .int .i64 W.hub.book.next, .int .i64 W.hub.book.wallet, (.slice a12 n12 k12), (.slice a13 n13 k13), (.slice a14 n14 k14), .int .i64 W.hub.ledger.last, (.slice a15 n15 k15), (.slice a16 n16 k16), (.slice a17 n17 k17), (.slice a20 n20 k20), (.slice a21 n21 k21), (.slice a30 n30 k30), (.slice a40 n40 k40), (.slice a50 n50 k50)]).heap.size = X5.heap.size := size_setCells2 [.bool W.up, (.slice a10 n10 k10), (.slice a11 n11 k11), .int .i64 W.hub.log.next, .int .i64 W.hub.log.epoch, .int .i64 W.hub.book.tick, .int .i64 W.hub.book.next, .int .i64 W.hub.book.wallet, (.slice a12 n12 k12), (.slice a13 n13 k13), (.slice a14 n14 k14), .int .i64 W.hub.ledger.last, (.slice a15 n15 k15), (.slice a16 n16 k16), (.slice a17 n17 k17), (.slice a20 n20 k20), (.slice a21 n21 k21), (.slice a30 n30 k30), (.slice a40 n40 k40), (.slice a50 n50 k50)] _ _ _; generalize (X5.setCells (w.heap.size + 1) 0 [.bool W.up, (.slice a10 n10 k10), (.slice a11 n11 k11), .int .i64 W.hub.log.next, .int .i64 W.hub.log.epoch, .int .i64 W.hub.book.tick, .int .i64 W.hub.book.next, .int .i64 W.hub.book.wallet, (.slice a12 n12 k12), (.slice a13 n13 k13), (.slice a14 n14 k14), .int .i64 W.hub.ledger.last, (.slice a15 n15 k15), (.slice a16 n16 k16), (.slice a17 n17 k17), (.slice a20 n20 k20), (.slice a21 n21 k21), (.slice a30 n30 k30), (.slice a40 n40 k40), (.slice a50 n50 k50)]) = XF at hPx h2x h3x exx BXx ZXx ⊢))
  replace hP := hPx
  replace hO := h2x
  replace hR : Bx XF (w.heap.size + 1) [.bool W.up, (.slice a10 n10 k10), (.slice a11 n11 k11), .int .i64 W.hub.log.next, .int .i64 W.hub.log.epoch, .int .i64 W.hub.book.tick, .int .i64 W.hub.book.next, .int .i64 W.hub.book.wallet, (.slice a12 n12 k12), (.slice a13 n13 k13), (.slice a14 n14 k14), .int .i64 W.hub.ledger.last, (.slice a15 n15 k15), (.slice a16 n16 k16), (.slice a17 n17 k17), (.slice a20 n20 k20), (.slice a21 n21 k21), (.slice a30 n30 k30), (.slice a40 n40 k40), (.slice a50 n50 k50)] := h3x
  replace BX := BXx
  replace hs : X0.heap.size ≤ XF.heap.size := by rw [ZXx]; exact hs
  clear hPx h2x h3x BXx ZXx
  replace ho1 := ho1.kept exx (fun k hk hm => by have := (ho1.lt k hk).1; simp only [List.mem_cons, List.not_mem_nil, or_false] at hm; omega)
  replace ho2 := ho2.kept exx (fun k hk hm => by have := (ho2.lt k hk).1; simp only [List.mem_cons, List.not_mem_nil, or_false] at hm; omega)
  replace ho3 := ho3.kept exx (fun k hk hm => by have := (ho3.lt k hk).1; simp only [List.mem_cons, List.not_mem_nil, or_false] at hm; omega)
  replace ho4 := ho4.kept exx (fun k hk hm => by have := (ho4.lt k hk).1; simp only [List.mem_cons, List.not_mem_nil, or_false] at hm; omega)
  replace ho5 := ho5.kept exx (fun k hk hm => by have := (ho5.lt k hk).1; simp only [List.mem_cons, List.not_mem_nil, or_false] at hm; omega)
  clear exx
  have hL := run_load_row unWorld infWorld hR rfl
  refine bodyPost_ret (v := .agg #[.bool W.up, (.slice a10 n10 k10), (.slice a11 n11 k11), .int .i64 W.hub.log.next, .int .i64 W.hub.log.epoch, .int .i64 W.hub.book.tick, .int .i64 W.hub.book.next, .int .i64 W.hub.book.wallet, (.slice a12 n12 k12), (.slice a13 n13 k13), (.slice a14 n14 k14), .int .i64 W.hub.ledger.last, (.slice a15 n15 k15), (.slice a16 n16 k16), (.slice a17 n17 k17), (.slice a20 n20 k20), (.slice a21 n21 k21), (.slice a30 n30 k30), (.slice a40 n40 k40), (.slice a50 n50 k50)]) (by simp only [results, Tryz.results8]; simp [Act.put, hL, asAddr]) rfl ?_
  have hX : w.heap.size ≤ X0.heap.size := by omega
  replace ho1 := ho1.le hX
  replace ho2 := ho2.le hX
  replace ho3 := ho3.le hX
  replace ho4 := ho4.le hX
  replace ho5 := ho5.le hX
  exact ⟨⟨_, _, _, _, _, _, _, _, _, _, _, _, _, _, rfl, ⟨_, _, _, _, _, ⟨ho1, ho2, ho3, ho4, ho5⟩, rfl, hnd⟩⟩, BX⟩

end Go.Proofs.YtafbdbefmlgioaaGreatDoor
