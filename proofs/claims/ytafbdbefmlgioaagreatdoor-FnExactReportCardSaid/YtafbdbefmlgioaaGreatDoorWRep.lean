/- Report: the law walked. -/
import Derived.Test.YtafbdbefmlgioaaGreatDoorRepI
import Derived.Test.YtafbdbefmlgioaaGreatDoorRepS
import Derived.Test.YtafbdbefmlgioaaGreatDoorWTo
import Derived.Test.YtafbdbefmlgioaaGreatDoorWO
import Derived.Deep.RegionWith
import Derived.Deep.DeepCutAuto
import Derived.Deep.RegionHeld3
namespace Go.Proofs.YtafbdbefmlgioaaGreatDoor
open Go.RowKit
set_option linter.unusedVariables false
set_option linter.unusedSimpArgs false

theorem VS.one {α : Type} {en : α → List Value} {sz : Nat} {ok : α → Prop} {w : World} {B : Nat} {v : Value} {xs : List α} (h : VS en sz ok w B v xs) : v.oneCell' = true := by
  obtain ⟨a, n, c, rfl, _⟩ := h
  rfl
theorem VN.one {α β : Type} {K : Kd α β} {w : World} {B : Nat} {v : Value} {xs : List α} (h : VN K w B v xs) : v.oneCell' = true := by
  obtain ⟨a, n, c, rfl, _⟩ := h
  rfl
theorem WdV.one {c d x y z l p q c2 d2 t s k : Value} {W : Wd} {w : World} {B : Nat} (V : WdV w B c d x y z l p q c2 d2 t s k W) : ∀ v ∈ ([.bool W.up, c, d, .int .i64 W.hub.log.next, .int .i64 W.hub.log.epoch, .int .i64 W.hub.book.tick, .int .i64 W.hub.book.next, .int .i64 W.hub.book.wallet, x, y, z, .int .i64 W.hub.ledger.last, l, p, q, c2, d2, t, s, k] : List Value), v.oneCell' = true := by
  intro v hv
  simp only [List.mem_cons, List.not_mem_nil, or_false] at hv
  rcases hv with rfl | rfl | rfl | rfl | rfl | rfl | rfl | rfl | rfl | rfl | rfl | rfl | rfl | rfl | rfl | rfl | rfl | rfl | rfl | rfl
  all_goals first | rfl | exact V.hub.log.disk.cells.one | exact V.hub.log.disk.dirty.one | exact V.hub.book.chans.one | exact V.hub.book.htlcs.one | exact V.hub.book.circles.one | exact V.hub.ledger.lines.one | exact V.hub.wait.one | exact V.hub.sent.one | exact V.disk.cells.one | exact V.disk.dirty.one | exact V.took.one | exact V.sent.one | exact V.codes.one

set_option maxRecDepth 100000 in
set_option maxHeartbeats 12800000 in
theorem walk_FnExactReport (c d x y z l p q c2 d2 t s k : Value) (W : Wd) (w : World) (V : WdV w w.heap.size c d x y z l p q c2 d2 t s k W) (T : PM w) : Calls Tryz.prog 3 #[.agg #[.bool W.up, c, d, .int .i64 W.hub.log.next, .int .i64 W.hub.log.epoch, .int .i64 W.hub.book.tick, .int .i64 W.hub.book.next, .int .i64 W.hub.book.wallet, x, y, z, .int .i64 W.hub.ledger.last, l, p, q, c2, d2, t, s, k]] w fun e w' => e = .returned (.bool true) ∧ Below w.heap.size w w' := by
  go_enter Tryz.func3, Tryz.ntmps3
  go_upto_region 2 with fail
  have hP : Bx (w.alloc (.cells #[.bool W.up, c, d, .int .i64 W.hub.log.next, .int .i64 W.hub.log.epoch, .int .i64 W.hub.book.tick, .int .i64 W.hub.book.next, .int .i64 W.hub.book.wallet, x, y, z, .int .i64 W.hub.ledger.last, l, p, q, c2, d2, t, s, k] 41)) w.heap.size [.bool W.up, c, d, .int .i64 W.hub.log.next, .int .i64 W.hub.log.epoch, .int .i64 W.hub.book.tick, .int .i64 W.hub.book.next, .int .i64 W.hub.book.wallet, x, y, z, .int .i64 W.hub.ledger.last, l, p, q, c2, d2, t, s, k] := Bx.new _ _ _ [.bool W.up, c, d, .int .i64 W.hub.log.next, .int .i64 W.hub.log.epoch, .int .i64 W.hub.book.tick, .int .i64 W.hub.book.next, .int .i64 W.hub.book.wallet, x, y, z, .int .i64 W.hub.ledger.last, l, p, q, c2, d2, t, s, k] rfl (by exact Nat.zero_lt_succ _) _ rfl
  have B0 : Below w.heap.size w (w.alloc (.cells #[.bool W.up, c, d, .int .i64 W.hub.log.next, .int .i64 W.hub.log.epoch, .int .i64 W.hub.book.tick, .int .i64 W.hub.book.next, .int .i64 W.hub.book.wallet, x, y, z, .int .i64 W.hub.ledger.last, l, p, q, c2, d2, t, s, k] 41)) := by (repeat (first | (with_reducible exact Below.refl _ _) | (with_reducible assumption) | (with_reducible refine Below.setCell ?_ ?side _; case side => first | (with_reducible exact Nat.le_refl _) | (simp; done) | (simp only [World.size_alloc, World.size_setCell, World.size_drew, World.heap_drewN] at *; omega)) | (with_reducible refine below_alloc ?_ _) | (with_reducible refine Below.drew ?_) | (with_reducible refine below_drewN ?_) | (with_reducible refine below_via (by assumption) ?_)))
  generalize w.alloc (.cells #[.bool W.up, c, d, .int .i64 W.hub.log.next, .int .i64 W.hub.log.epoch, .int .i64 W.hub.book.tick, .int .i64 W.hub.book.next, .int .i64 W.hub.book.wallet, x, y, z, .int .i64 W.hub.ledger.last, l, p, q, c2, d2, t, s, k] 41) = X0 at hP B0 ⊢
  go_wp2_with ((show Go.wpList _ _ _ ((Go.Oper.mk _ (Go.Op.load 41 _) _ _ _ _) :: _) _ _); refine wpList_load_row unLWorld infLWorld rfl _ rfl _ _ rfl [.bool W.up, c, d, .int .i64 W.hub.log.next, .int .i64 W.hub.log.epoch, .int .i64 W.hub.book.tick, .int .i64 W.hub.book.next, .int .i64 W.hub.book.wallet, x, y, z, .int .i64 W.hub.ledger.last, l, p, q, c2, d2, t, s, k] (hP.range 0 [.bool W.up, c, d, .int .i64 W.hub.log.next, .int .i64 W.hub.log.epoch, .int .i64 W.hub.book.tick, .int .i64 W.hub.book.next, .int .i64 W.hub.book.wallet, x, y, z, .int .i64 W.hub.ledger.last, l, p, q, c2, d2, t, s, k] rfl) rfl ?_)
  refine (szWorld_any _ _ _ _ _ _ _ _ _ _ _ _ _ W _ X0 (V.keep B0) (by decide) (by decide)).mono ?_
  rintro e w1 ⟨⟨r, rfl, hr⟩, hb⟩
  have B1 : Below w.heap.size w w1 := below_via hb B0
  replace hP := hP.keep hb
  clear hb
  rcases hr with rfl | ⟨r0, r1, hB⟩
  · go_wp2
    go_ret
    exact ⟨rfl, B1⟩
  · go_wp2_with ((show Go.wpList _ _ _ ((Go.Oper.mk _ (Go.Op.load 41 _) _ _ _ _) :: _) _ _); refine wpList_load_row unLWorld infLWorld rfl _ rfl _ _ rfl [.bool W.up, c, d, .int .i64 W.hub.log.next, .int .i64 W.hub.log.epoch, .int .i64 W.hub.book.tick, .int .i64 W.hub.book.next, .int .i64 W.hub.book.wallet, x, y, z, .int .i64 W.hub.ledger.last, l, p, q, c2, d2, t, s, k] (hP.range 0 [.bool W.up, c, d, .int .i64 W.hub.log.next, .int .i64 W.hub.log.epoch, .int .i64 W.hub.book.tick, .int .i64 W.hub.book.next, .int .i64 W.hub.book.wallet, x, y, z, .int .i64 W.hub.ledger.last, l, p, q, c2, d2, t, s, k] rfl) rfl ?_)
    refine (toWorld_any _ _ _ _ _ _ _ _ _ _ _ _ _ W w1 (V.keep B1) hB).mono ?_
    rintro e w2 ⟨⟨F, c', d', x', y', z', l', p', q', c2', d2', t', s', k', rfl, O2⟩, hb⟩
    have B2 : Below w.heap.size w w2 := below_via hb B1
    replace hP := hP.keep hb
    clear hb
    go_wp2_with fail
    refine (report_spec _ _ _ _ _ _ _ _ _ _ _ _ _ W w2 O2.vw hB).mono ?_
    rintro e w3 ⟨rfl, hb⟩
    have B3 : Below w.heap.size w w3 := below_via hb B2
    replace hP := hP.keep hb
    clear hb O2
    go_wp2_with ((show Go.wpList _ _ _ ((Go.Oper.mk _ (Go.Op.load 41 _) _ _ _ _) :: _) _ _); refine wpList_load_row unLWorld infLWorld rfl _ rfl _ _ rfl [.bool W.up, c, d, .int .i64 W.hub.log.next, .int .i64 W.hub.log.epoch, .int .i64 W.hub.book.tick, .int .i64 W.hub.book.next, .int .i64 W.hub.book.wallet, x, y, z, .int .i64 W.hub.ledger.last, l, p, q, c2, d2, t, s, k] (hP.range 0 [.bool W.up, c, d, .int .i64 W.hub.log.next, .int .i64 W.hub.log.epoch, .int .i64 W.hub.book.tick, .int .i64 W.hub.book.next, .int .i64 W.hub.book.wallet, x, y, z, .int .i64 W.hub.ledger.last, l, p, q, c2, d2, t, s, k] rfl) rfl ?_)
    refine (toWorld_any _ _ _ _ _ _ _ _ _ _ _ _ _ W w3 (V.keep B3) hB).mono ?_
    rintro e w4 ⟨⟨F4, c', d', x', y', z', l', p', q', c2', d2', t', s', k', rfl, O4⟩, hb⟩
    have B4 : Below w.heap.size w w4 := below_via hb B3
    replace hP := hP.keep hb
    have V4 := O4.vw
    clear hb O4
    have hone := V4.one
    have hQ0 : Bx (w4.alloc (.cells #[.bool false, .slice none 0 0, .slice none 0 0, .int .i64 0, .int .i64 0, .int .i64 0, .int .i64 0, .int .i64 0, .slice none 0 0, .slice none 0 0, .slice none 0 0, .int .i64 0, .slice none 0 0, .slice none 0 0, .slice none 0 0, .slice none 0 0, .slice none 0 0, .slice none 0 0, .slice none 0 0, .slice none 0 0] 62)) w4.heap.size [.bool false, .slice none 0 0, .slice none 0 0, .int .i64 0, .int .i64 0, .int .i64 0, .int .i64 0, .int .i64 0, .slice none 0 0, .slice none 0 0, .slice none 0 0, .int .i64 0, .slice none 0 0, .slice none 0 0, .slice none 0 0, .slice none 0 0, .slice none 0 0, .slice none 0 0, .slice none 0 0, .slice none 0 0] := Bx.new _ _ _ [.bool false, .slice none 0 0, .slice none 0 0, .int .i64 0, .int .i64 0, .int .i64 0, .int .i64 0, .int .i64 0, .slice none 0 0, .slice none 0 0, .slice none 0 0, .int .i64 0, .slice none 0 0, .slice none 0 0, .slice none 0 0, .slice none 0 0, .slice none 0 0, .slice none 0 0, .slice none 0 0, .slice none 0 0] rfl (by exact Nat.zero_lt_succ _) _ rfl
    go_upto_region 7 with ((show Go.wpList _ _ _ ((Go.Oper.mk _ (Go.Op.store 62 _ _) _ _ _ _) :: _) _ _); refine wpList_store_row infWorld rfl _ _ rfl w4.heap.size 0 [.bool W.up, c', d', .int .i64 W.hub.log.next, .int .i64 W.hub.log.epoch, .int .i64 W.hub.book.tick, .int .i64 W.hub.book.next, .int .i64 W.hub.book.wallet, x', y', z', .int .i64 W.hub.ledger.last, l', p', q', c2', d2', t', s', k'] rfl rfl (hQ0.there 0 20 (by exact Nat.le_of_ble_eq_true rfl)) rfl hone ?_)
    have hQ : Bx ((w4.alloc (.cells #[.bool false, .slice none 0 0, .slice none 0 0, .int .i64 0, .int .i64 0, .int .i64 0, .int .i64 0, .int .i64 0, .slice none 0 0, .slice none 0 0, .slice none 0 0, .int .i64 0, .slice none 0 0, .slice none 0 0, .slice none 0 0, .slice none 0 0, .slice none 0 0, .slice none 0 0, .slice none 0 0, .slice none 0 0] 62)).setCells w4.heap.size 0 [.bool W.up, c', d', .int .i64 W.hub.log.next, .int .i64 W.hub.log.epoch, .int .i64 W.hub.book.tick, .int .i64 W.hub.book.next, .int .i64 W.hub.book.wallet, x', y', z', .int .i64 W.hub.ledger.last, l', p', q', c2', d2', t', s', k']) w4.heap.size [.bool W.up, c', d', .int .i64 W.hub.log.next, .int .i64 W.hub.log.epoch, .int .i64 W.hub.book.tick, .int .i64 W.hub.book.next, .int .i64 W.hub.book.wallet, x', y', z', .int .i64 W.hub.ledger.last, l', p', q', c2', d2', t', s', k'] := hQ0.set 0 [.bool W.up, c', d', .int .i64 W.hub.log.next, .int .i64 W.hub.log.epoch, .int .i64 W.hub.book.tick, .int .i64 W.hub.book.next, .int .i64 W.hub.book.wallet, x', y', z', .int .i64 W.hub.ledger.last, l', p', q', c2', d2', t', s', k'] (by exact Nat.le_of_ble_eq_true rfl)
    have hP5 : Bx ((w4.alloc (.cells #[.bool false, .slice none 0 0, .slice none 0 0, .int .i64 0, .int .i64 0, .int .i64 0, .int .i64 0, .int .i64 0, .slice none 0 0, .slice none 0 0, .slice none 0 0, .int .i64 0, .slice none 0 0, .slice none 0 0, .slice none 0 0, .slice none 0 0, .slice none 0 0, .slice none 0 0, .slice none 0 0, .slice none 0 0] 62)).setCells w4.heap.size 0 [.bool W.up, c', d', .int .i64 W.hub.log.next, .int .i64 W.hub.log.epoch, .int .i64 W.hub.book.tick, .int .i64 W.hub.book.next, .int .i64 W.hub.book.wallet, x', y', z', .int .i64 W.hub.ledger.last, l', p', q', c2', d2', t', s', k']) w.heap.size [.bool W.up, c, d, .int .i64 W.hub.log.next, .int .i64 W.hub.log.epoch, .int .i64 W.hub.book.tick, .int .i64 W.hub.book.next, .int .i64 W.hub.book.wallet, x, y, z, .int .i64 W.hub.ledger.last, l, p, q, c2, d2, t, s, k] := (hP.alloc _).other _ _ _ (by have := hP.lt; omega)
    have C5 : Below w4.heap.size w4 ((w4.alloc (.cells #[.bool false, .slice none 0 0, .slice none 0 0, .int .i64 0, .int .i64 0, .int .i64 0, .int .i64 0, .int .i64 0, .slice none 0 0, .slice none 0 0, .slice none 0 0, .int .i64 0, .slice none 0 0, .slice none 0 0, .slice none 0 0, .slice none 0 0, .slice none 0 0, .slice none 0 0, .slice none 0 0, .slice none 0 0] 62)).setCells w4.heap.size 0 [.bool W.up, c', d', .int .i64 W.hub.log.next, .int .i64 W.hub.log.epoch, .int .i64 W.hub.book.tick, .int .i64 W.hub.book.next, .int .i64 W.hub.book.wallet, x', y', z', .int .i64 W.hub.ledger.last, l', p', q', c2', d2', t', s', k']) := below_setCells2 (Nat.le_refl _) [.bool W.up, c', d', .int .i64 W.hub.log.next, .int .i64 W.hub.log.epoch, .int .i64 W.hub.book.tick, .int .i64 W.hub.book.next, .int .i64 W.hub.book.wallet, x', y', z', .int .i64 W.hub.ledger.last, l', p', q', c2', d2', t', s', k'] _ _ (by (repeat (first | (with_reducible exact Below.refl _ _) | (with_reducible assumption) | (with_reducible refine Below.setCell ?_ ?side _; case side => first | (with_reducible exact Nat.le_refl _) | (simp; done) | (simp only [World.size_alloc, World.size_setCell, World.size_drew, World.heap_drewN] at *; omega)) | (with_reducible refine below_alloc ?_ _) | (with_reducible refine Below.drew ?_) | (with_reducible refine below_drewN ?_) | (with_reducible refine below_via (by assumption) ?_))))
    generalize (w4.alloc (.cells #[.bool false, .slice none 0 0, .slice none 0 0, .int .i64 0, .int .i64 0, .int .i64 0, .int .i64 0, .int .i64 0, .slice none 0 0, .slice none 0 0, .slice none 0 0, .int .i64 0, .slice none 0 0, .slice none 0 0, .slice none 0 0, .slice none 0 0, .slice none 0 0, .slice none 0 0, .slice none 0 0, .slice none 0 0] 62)).setCells w4.heap.size 0 [.bool W.up, c', d', .int .i64 W.hub.log.next, .int .i64 W.hub.log.epoch, .int .i64 W.hub.book.tick, .int .i64 W.hub.book.next, .int .i64 W.hub.book.wallet, x', y', z', .int .i64 W.hub.ledger.last, l', p', q', c2', d2', t', s', k'] = X5 at hQ hP5 C5 ⊢
    have B5 : Below w.heap.size w X5 := below_via C5 B4
    clear hQ0 hP
    go_wp2_with ((show Go.wpList _ _ _ ((Go.Oper.mk _ (Go.Op.load 62 _) _ _ _ _) :: _) _ _); refine wpList_load_row unWorld infWorld rfl _ rfl _ _ rfl [.bool W.up, c', d', .int .i64 W.hub.log.next, .int .i64 W.hub.log.epoch, .int .i64 W.hub.book.tick, .int .i64 W.hub.book.next, .int .i64 W.hub.book.wallet, x', y', z', .int .i64 W.hub.ledger.last, l', p', q', c2', d2', t', s', k'] (hQ.range 0 [.bool W.up, c', d', .int .i64 W.hub.log.next, .int .i64 W.hub.log.epoch, .int .i64 W.hub.book.tick, .int .i64 W.hub.book.next, .int .i64 W.hub.book.wallet, x', y', z', .int .i64 W.hub.ledger.last, l', p', q', c2', d2', t', s', k'] rfl) rfl ?_)
    refine (report_impl _ _ _ _ _ _ _ _ _ _ _ _ _ W X5 (V4.keep C5) hB (T.keep B5)).mono ?_
    rintro e w6 ⟨rfl, hb⟩
    have B6 : Below w.heap.size w w6 := below_via hb B5
    have C6 : Below w4.heap.size w4 w6 := below_via hb C5
    have hQ6 := hQ.keep hb
    have hP6 := hP5.keep hb
    have r1 := hQ6.at_
    have r2 := hP6.at_
    clear hb hQ hP5 C5
    obtain ⟨fs1, hu1⟩ := unWorld
    have hi1 : (Tryz.prog.info? 62).map (·.size) = some ([.bool W.up, c', d', .int .i64 W.hub.log.next, .int .i64 W.hub.log.epoch, .int .i64 W.hub.book.tick, .int .i64 W.hub.book.next, .int .i64 W.hub.book.wallet, x', y', z', .int .i64 W.hub.ledger.last, l', p', q', c2', d2', t', s', k'] : List Value).length := infWorld
    obtain ⟨fs2, hu2⟩ := unLWorld
    have hi2 : (Tryz.prog.info? 41).map (·.size) = some ([.bool W.up, c, d, .int .i64 W.hub.log.next, .int .i64 W.hub.log.epoch, .int .i64 W.hub.book.tick, .int .i64 W.hub.book.next, .int .i64 W.hub.book.wallet, x, y, z, .int .i64 W.hub.ledger.last, l, p, q, c2, d2, t, s, k] : List Value).length := infLWorld
    go_upto_region 10 with fail
    refine wp_region_held_drew (S := fun w' => w'.rangeAt w4.heap.size 0 [.bool W.up, c', d', .int .i64 W.hub.log.next, .int .i64 W.hub.log.epoch, .int .i64 W.hub.book.tick, .int .i64 W.hub.book.next, .int .i64 W.hub.book.wallet, x', y', z', .int .i64 W.hub.ledger.last, l', p', q', c2', d2', t', s', k'] ∧ w'.rangeAt w.heap.size 0 [.bool W.up, c, d, .int .i64 W.hub.log.next, .int .i64 W.hub.log.epoch, .int .i64 W.hub.book.tick, .int .i64 W.hub.book.next, .int .i64 W.hub.book.wallet, x, y, z, .int .i64 W.hub.ledger.last, l, p, q, c2, d2, t, s, k]) (by kernel_rfl) ⟨r1, r2⟩ (fun hHeld => ?_)
    refine wpAnyH_take (i := 0) (v := .agg #[.bool W.up, c', d', .int .i64 W.hub.log.next, .int .i64 W.hub.log.epoch, .int .i64 W.hub.book.tick, .int .i64 W.hub.book.next, .int .i64 W.hub.book.wallet, x', y', z', .int .i64 W.hub.ledger.last, l', p', q', c2', d2', t', s', k']) rfl (by kernel_rfl) (by kernel_rfl) (by kernel_rfl) (fun _ _ _ h => h) (yieldsIf_load_mid (by rfl) _ _ rfl _ _ rfl [.bool W.up, c', d', .int .i64 W.hub.log.next, .int .i64 W.hub.log.epoch, .int .i64 W.hub.book.tick, .int .i64 W.hub.book.next, .int .i64 W.hub.book.wallet, x', y', z', .int .i64 W.hub.ledger.last, l', p', q', c2', d2', t', s', k'] _ (fun _ h => h.1) hu1 rfl hi1) (by assumption) ?_
    simp only [Act.put, List.setIfInBounds_toArray, List.set_cons_zero, List.set_cons_succ]
    refine wpAnyH_take (i := 1) (v := .agg #[.bool W.up, c, d, .int .i64 W.hub.log.next, .int .i64 W.hub.log.epoch, .int .i64 W.hub.book.tick, .int .i64 W.hub.book.next, .int .i64 W.hub.book.wallet, x, y, z, .int .i64 W.hub.ledger.last, l, p, q, c2, d2, t, s, k]) rfl (by kernel_rfl) (by kernel_rfl) (by kernel_rfl) (fun _ _ _ h => h) (yieldsIf_load_mid (by rfl) _ _ rfl _ _ rfl [.bool W.up, c, d, .int .i64 W.hub.log.next, .int .i64 W.hub.log.epoch, .int .i64 W.hub.book.tick, .int .i64 W.hub.book.next, .int .i64 W.hub.book.wallet, x, y, z, .int .i64 W.hub.ledger.last, l, p, q, c2, d2, t, s, k] _ (fun _ h => h.2) hu2 rfl hi2) (by assumption) ?_
    simp only [Act.put, List.setIfInBounds_toArray, List.set_cons_zero, List.set_cons_succ]
    refine wpAnyH_ready (rs := [2]) (by kernel_rfl) (by simp) ?_
    refine AllReadyH.cons rfl (fun K hK => ?_) AllReadyH.nil
    go_simp
    (go_at_call 8; refine (toWorld_any _ _ _ _ _ _ _ _ _ _ _ _ _ W _ (V.keep (by (repeat (first | (with_reducible exact Below.refl _ _) | (with_reducible assumption) | (with_reducible refine Below.setCell ?_ ?side _; case side => first | (with_reducible exact Nat.le_refl _) | (simp; done) | (simp only [World.size_alloc, World.size_setCell, World.size_drew, World.heap_drewN] at *; omega)) | (with_reducible refine below_alloc ?_ _) | (with_reducible refine Below.drew ?_) | (with_reducible refine below_drewN ?_) | (with_reducible refine below_via (by assumption) ?_))))) hB).mono ?_)
    rintro e w7 ⟨⟨F7, c7, d7, x7, y7, z7, l7, p7, q7, c72, d72, t7, s7, k7, rfl, O7⟩, hb⟩
    have D7 : Below w6.heap.size w6 w7 := by (repeat (first | (with_reducible exact Below.refl _ _) | (with_reducible assumption) | (with_reducible refine Below.setCell ?_ ?side _; case side => first | (with_reducible exact Nat.le_refl _) | (simp; done) | (simp only [World.size_alloc, World.size_setCell, World.size_drew, World.heap_drewN] at *; omega)) | (with_reducible refine below_alloc ?_ _) | (with_reducible refine Below.drew ?_) | (with_reducible refine below_drewN ?_) | (with_reducible refine below_via (by assumption) ?_)))
    have B7 : Below w.heap.size w w7 := below_via D7 B6
    have C7 : Below w4.heap.size w4 w7 := below_via D7 C6
    refine hK.out _ _ ⟨(hQ6.keep D7).at_, (hP6.keep D7).at_⟩ (fun hHeld7 => ?_)
    clear hK K hb
    try simp only [Act.put, List.setIfInBounds_toArray, List.set_cons_zero, List.set_cons_succ]
    refine wpAnyH_ready (rs := [3]) (by kernel_rfl) (by simp) ?_
    refine AllReadyH.cons rfl (fun K hK => ?_) AllReadyH.nil
    go_simp
    (go_at_call 10; refine (eqWorld_any _ _ _ _ _ _ _ _ _ _ _ _ _ _ _ _ _ _ _ _ _ _ _ _ _ _ W _ (V4.keep (by (repeat (first | (with_reducible exact Below.refl _ _) | (with_reducible assumption) | (with_reducible refine Below.setCell ?_ ?side _; case side => first | (with_reducible exact Nat.le_refl _) | (simp; done) | (simp only [World.size_alloc, World.size_setCell, World.size_drew, World.heap_drewN] at *; omega)) | (with_reducible refine below_alloc ?_ _) | (with_reducible refine Below.drew ?_) | (with_reducible refine below_drewN ?_) | (with_reducible refine below_via (by assumption) ?_))))) (by have := O7.vw; exact this.keep (by (repeat (first | (with_reducible exact Below.refl _ _) | (with_reducible assumption) | (with_reducible refine Below.setCell ?_ ?side _; case side => first | (with_reducible exact Nat.le_refl _) | (simp; done) | (simp only [World.size_alloc, World.size_setCell, World.size_drew, World.heap_drewN] at *; omega)) | (with_reducible refine below_alloc ?_ _) | (with_reducible refine Below.drew ?_) | (with_reducible refine below_drewN ?_) | (with_reducible refine below_via (by assumption) ?_)))))).mono ?_)
    rintro e w8 ⟨rfl, hb⟩
    have D8 : Below w7.heap.size w7 w8 := by (repeat (first | (with_reducible exact Below.refl _ _) | (with_reducible assumption) | (with_reducible refine Below.setCell ?_ ?side _; case side => first | (with_reducible exact Nat.le_refl _) | (simp; done) | (simp only [World.size_alloc, World.size_setCell, World.size_drew, World.heap_drewN] at *; omega)) | (with_reducible refine below_alloc ?_ _) | (with_reducible refine Below.drew ?_) | (with_reducible refine below_drewN ?_) | (with_reducible refine below_via (by assumption) ?_)))
    have B8 : Below w.heap.size w w8 := below_via D8 B7
    refine hK.out _ _ ⟨((hQ6.keep D7).keep D8).at_, ((hP6.keep D7).keep D8).at_⟩ (fun hHeld8 => ?_)
    clear hK K hb
    try simp only [Act.put, List.setIfInBounds_toArray, List.set_cons_zero, List.set_cons_succ]
    refine wpAnyH_take (i := 4) (v := .bool false) rfl (by kernel_rfl) (by kernel_rfl) (by kernel_rfl) (fun _ _ _ h => h) (Or.inl ⟨by rfl, ?_⟩) (by assumption) ?_
    · intro w' hSw
      go_simp
    try simp only [Act.put, List.setIfInBounds_toArray, List.set_cons_zero, List.set_cons_succ]
    refine wpAnyH_done (by kernel_rfl) ?_ _
    go_wp2
    go_ret
    exact ⟨rfl, by (repeat (first | (with_reducible exact Below.refl _ _) | (with_reducible assumption) | (with_reducible refine Below.setCell ?_ ?side _; case side => first | (with_reducible exact Nat.le_refl _) | (simp; done) | (simp only [World.size_alloc, World.size_setCell, World.size_drew, World.heap_drewN] at *; omega)) | (with_reducible refine below_alloc ?_ _) | (with_reducible refine Below.drew ?_) | (with_reducible refine below_drewN ?_) | (with_reducible refine below_via (by assumption) ?_)))⟩

end Go.Proofs.YtafbdbefmlgioaaGreatDoor
