/- Reports: the reference. -/
import Derived.Test.YtafbdbefmlgioaaGreatDoorRepN
import Derived.Deep.RegionWith
import Derived.Deep.DeepCutAuto
import Derived.Deep.RegionHeld3
namespace Go.Proofs.YtafbdbefmlgioaaGreatDoor
open Go.RowKit
set_option linter.unusedVariables false
set_option linter.unusedSimpArgs false

set_option maxRecDepth 100000 in
set_option maxHeartbeats 12800000 in
theorem report_spec (c d x y z l p q c2 d2 t s k : Value) (W : Wd) (w : World) (V : WdV w w.heap.size c d x y z l p q c2 d2 t s k W) (hB : WdB W)  : Calls Tryz.prog 7 #[.agg #[.bool W.up, c, d, .int .i64 W.hub.log.next, .int .i64 W.hub.log.epoch, .int .i64 W.hub.book.tick, .int .i64 W.hub.book.next, .int .i64 W.hub.book.wallet, x, y, z, .int .i64 W.hub.ledger.last, l, p, q, c2, d2, t, s, k]] w fun e w' => e = .returned (.string (S (repW W))) ∧ Below w.heap.size w w' := by
  have VB := V.hub.book
  have VL := V.hub.ledger
  have Iw := Lib.hid VB.ints.2.2
  have hB1 := Lib.hid hB.1.2.1
  have hB2 := Lib.hid hB.1.2.2.1
  have hB3 := Lib.hid hB.2.2
  obtain ⟨xa, xn, xc, hx, -, -, hxs⟩ := id V.hub.book.chans
  obtain ⟨ya, yn, yc, hy, -, -, hys⟩ := id V.hub.book.htlcs
  obtain ⟨za, zn, zc, hz, -, -, hzs⟩ := id V.hub.book.circles
  obtain ⟨la, ln, lc, hl, -, -, hls⟩ := id V.hub.ledger.lines
  obtain ⟨ta, tn, tc, ht, -, -, hts⟩ := id V.took
  obtain ⟨sa, sn, sc, hs, -, -, hss⟩ := id V.sent
  subst hx hy hz hl ht hs
  have Lx := Lib.hid hxs.1
  have Ly := Lib.hid hys.1
  have Lz := Lib.hid hzs.1
  have Ll := Lib.hid hls.1
  have Lt := Lib.hid hts.1
  have Ls := Lib.hid hss.1
  have tnb : tn ≤ 1048576 := by have := hB3.out.1; have := Lt.out; omega
  have snb : sn ≤ 1048576 := by have := hB3.out.2.1; have := Ls.out; omega
  clear VB VL
  cases hu : W.up with
  | false =>
    have hr : Hid (S (lineR [100, 111, 119, 110] [(tn : Int), (sn : Int)]) = S (repW W)) := by unfold Hid repW; rw [hu, if_neg (by simp), Lt.out, Ls.out]
    go_enter Tryz.func7, Tryz.ntmps7
    go_wp2_with fail
    refine (line_spec ⟨#[100, 111, 119, 110]⟩ _ 2 2 [(tn : Int), (sn : Int)] _ (IS.lit _ [(tn : Int), (sn : Int)] #[.int .i64 (tn : Int), .int .i64 (sn : Int)] 3 rfl (by intro a ha; simp only [List.mem_cons, List.not_mem_nil, or_false] at ha; rcases ha with rfl | rfl <;> omega) (by simp) 2 rfl _ (by first | rfl | exact Z1 | simp)) (by decide) (by decide)).mono ?_
    rintro e w1 ⟨he, hb⟩
    subst he
    have B1 : Below w.heap.size w w1 := below_via hb (by (repeat (first | (with_reducible exact Below.refl _ _) | (with_reducible assumption) | (with_reducible refine Below.setCell ?_ ?side _; case side => first | (with_reducible exact Nat.le_refl _) | (simp; done) | (simp only [World.size_alloc, World.size_setCell, World.size_drew, World.heap_drewN] at *; omega)) | (with_reducible refine below_alloc ?_ _) | (with_reducible refine Below.drew ?_) | (with_reducible refine below_drewN ?_) | (with_reducible refine below_via (by assumption) ?_))))
    go_wp2
    go_ret
    exact ⟨by rw [← hr.out]; rfl, by (repeat (first | (with_reducible exact Below.refl _ _) | (with_reducible assumption) | (with_reducible refine Below.setCell ?_ ?side _; case side => first | (with_reducible exact Nat.le_refl _) | (simp; done) | (simp only [World.size_alloc, World.size_setCell, World.size_drew, World.heap_drewN] at *; omega)) | (with_reducible refine below_alloc ?_ _) | (with_reducible refine Below.drew ?_) | (with_reducible refine below_drewN ?_) | (with_reducible refine below_via (by assumption) ?_)))⟩
  | true =>
    have hr : Hid (repW W = (((repHead W ++ W.hub.book.chans.flatMap cnLine) ++ W.hub.book.htlcs.flatMap htLine) ++ W.hub.book.circles.flatMap ciLine) ++ W.hub.ledger.lines.flatMap lnLine) := by unfold Hid repW; rw [hu, if_pos rfl]
    have hhd : Hid (repHead W = lineR [117, 112] [(tn : Int), (sn : Int)] ++ lineR [119, 97, 108, 108, 101, 116] [W.hub.book.wallet]) := by unfold Hid repHead; rw [Lt.out, Ls.out]
    go_enter Tryz.func7, Tryz.ntmps7
    go_upto_region 3 with fail
    have BW : Below w.heap.size w (w.alloc (.cells #[.bool true, c, d, .int .i64 W.hub.log.next, .int .i64 W.hub.log.epoch, .int .i64 W.hub.book.tick, .int .i64 W.hub.book.next, .int .i64 W.hub.book.wallet, .slice xa xn xc, .slice ya yn yc, .slice za zn zc, .int .i64 W.hub.ledger.last, .slice la ln lc, p, q, c2, d2, .slice ta tn tc, .slice sa sn sc, k] 62)) := by (repeat (first | (with_reducible exact Below.refl _ _) | (with_reducible assumption) | (with_reducible refine Below.setCell ?_ ?side _; case side => first | (with_reducible exact Nat.le_refl _) | (simp; done) | (simp only [World.size_alloc, World.size_setCell, World.size_drew, World.heap_drewN] at *; omega)) | (with_reducible refine below_alloc ?_ _) | (with_reducible refine Below.drew ?_) | (with_reducible refine below_drewN ?_) | (with_reducible refine below_via (by assumption) ?_)))
    have SW : w.heap.size < (w.alloc (.cells #[.bool true, c, d, .int .i64 W.hub.log.next, .int .i64 W.hub.log.epoch, .int .i64 W.hub.book.tick, .int .i64 W.hub.book.next, .int .i64 W.hub.book.wallet, .slice xa xn xc, .slice ya yn yc, .slice za zn zc, .int .i64 W.hub.ledger.last, .slice la ln lc, p, q, c2, d2, .slice ta tn tc, .slice sa sn sc, k] 62)).heap.size := by simp
    have e0 : (w.alloc (.cells #[.bool true, c, d, .int .i64 W.hub.log.next, .int .i64 W.hub.log.epoch, .int .i64 W.hub.book.tick, .int .i64 W.hub.book.next, .int .i64 W.hub.book.wallet, .slice xa xn xc, .slice ya yn yc, .slice za zn zc, .int .i64 W.hub.ledger.last, .slice la ln lc, p, q, c2, d2, .slice ta tn tc, .slice sa sn sc, k] 62)).cell? ⟨w.heap.size, 0, none⟩ = some (.bool true) := by simp [go_sem]
    have e5 : (w.alloc (.cells #[.bool true, c, d, .int .i64 W.hub.log.next, .int .i64 W.hub.log.epoch, .int .i64 W.hub.book.tick, .int .i64 W.hub.book.next, .int .i64 W.hub.book.wallet, .slice xa xn xc, .slice ya yn yc, .slice za zn zc, .int .i64 W.hub.ledger.last, .slice la ln lc, p, q, c2, d2, .slice ta tn tc, .slice sa sn sc, k] 62)).cell? ⟨w.heap.size, 5, none⟩ = some (.int .i64 W.hub.book.tick) := by simp [go_sem]
    have e6 : (w.alloc (.cells #[.bool true, c, d, .int .i64 W.hub.log.next, .int .i64 W.hub.log.epoch, .int .i64 W.hub.book.tick, .int .i64 W.hub.book.next, .int .i64 W.hub.book.wallet, .slice xa xn xc, .slice ya yn yc, .slice za zn zc, .int .i64 W.hub.ledger.last, .slice la ln lc, p, q, c2, d2, .slice ta tn tc, .slice sa sn sc, k] 62)).cell? ⟨w.heap.size, 6, none⟩ = some (.int .i64 W.hub.book.next) := by simp [go_sem]
    have e7 : (w.alloc (.cells #[.bool true, c, d, .int .i64 W.hub.log.next, .int .i64 W.hub.log.epoch, .int .i64 W.hub.book.tick, .int .i64 W.hub.book.next, .int .i64 W.hub.book.wallet, .slice xa xn xc, .slice ya yn yc, .slice za zn zc, .int .i64 W.hub.ledger.last, .slice la ln lc, p, q, c2, d2, .slice ta tn tc, .slice sa sn sc, k] 62)).cell? ⟨w.heap.size, 7, none⟩ = some (.int .i64 W.hub.book.wallet) := by simp [go_sem]
    have e8 : (w.alloc (.cells #[.bool true, c, d, .int .i64 W.hub.log.next, .int .i64 W.hub.log.epoch, .int .i64 W.hub.book.tick, .int .i64 W.hub.book.next, .int .i64 W.hub.book.wallet, .slice xa xn xc, .slice ya yn yc, .slice za zn zc, .int .i64 W.hub.ledger.last, .slice la ln lc, p, q, c2, d2, .slice ta tn tc, .slice sa sn sc, k] 62)).cell? ⟨w.heap.size, 8, none⟩ = some (.slice xa xn xc) := by simp [go_sem]
    have e9 : (w.alloc (.cells #[.bool true, c, d, .int .i64 W.hub.log.next, .int .i64 W.hub.log.epoch, .int .i64 W.hub.book.tick, .int .i64 W.hub.book.next, .int .i64 W.hub.book.wallet, .slice xa xn xc, .slice ya yn yc, .slice za zn zc, .int .i64 W.hub.ledger.last, .slice la ln lc, p, q, c2, d2, .slice ta tn tc, .slice sa sn sc, k] 62)).cell? ⟨w.heap.size, 9, none⟩ = some (.slice ya yn yc) := by simp [go_sem]
    have e10 : (w.alloc (.cells #[.bool true, c, d, .int .i64 W.hub.log.next, .int .i64 W.hub.log.epoch, .int .i64 W.hub.book.tick, .int .i64 W.hub.book.next, .int .i64 W.hub.book.wallet, .slice xa xn xc, .slice ya yn yc, .slice za zn zc, .int .i64 W.hub.ledger.last, .slice la ln lc, p, q, c2, d2, .slice ta tn tc, .slice sa sn sc, k] 62)).cell? ⟨w.heap.size, 10, none⟩ = some (.slice za zn zc) := by simp [go_sem]
    have e12 : (w.alloc (.cells #[.bool true, c, d, .int .i64 W.hub.log.next, .int .i64 W.hub.log.epoch, .int .i64 W.hub.book.tick, .int .i64 W.hub.book.next, .int .i64 W.hub.book.wallet, .slice xa xn xc, .slice ya yn yc, .slice za zn zc, .int .i64 W.hub.ledger.last, .slice la ln lc, p, q, c2, d2, .slice ta tn tc, .slice sa sn sc, k] 62)).cell? ⟨w.heap.size, 12, none⟩ = some (.slice la ln lc) := by simp [go_sem]
    have e17 : (w.alloc (.cells #[.bool true, c, d, .int .i64 W.hub.log.next, .int .i64 W.hub.log.epoch, .int .i64 W.hub.book.tick, .int .i64 W.hub.book.next, .int .i64 W.hub.book.wallet, .slice xa xn xc, .slice ya yn yc, .slice za zn zc, .int .i64 W.hub.ledger.last, .slice la ln lc, p, q, c2, d2, .slice ta tn tc, .slice sa sn sc, k] 62)).cell? ⟨w.heap.size, 17, none⟩ = some (.slice ta tn tc) := by simp [go_sem]
    have e18 : (w.alloc (.cells #[.bool true, c, d, .int .i64 W.hub.log.next, .int .i64 W.hub.log.epoch, .int .i64 W.hub.book.tick, .int .i64 W.hub.book.next, .int .i64 W.hub.book.wallet, .slice xa xn xc, .slice ya yn yc, .slice za zn zc, .int .i64 W.hub.ledger.last, .slice la ln lc, p, q, c2, d2, .slice ta tn tc, .slice sa sn sc, k] 62)).cell? ⟨w.heap.size, 18, none⟩ = some (.slice sa sn sc) := by simp [go_sem]
    have Z1 : (w.alloc (.cells #[.bool true, c, d, .int .i64 W.hub.log.next, .int .i64 W.hub.log.epoch, .int .i64 W.hub.book.tick, .int .i64 W.hub.book.next, .int .i64 W.hub.book.wallet, .slice xa xn xc, .slice ya yn yc, .slice za zn zc, .int .i64 W.hub.ledger.last, .slice la ln lc, p, q, c2, d2, .slice ta tn tc, .slice sa sn sc, k] 62)).heap.size = w.heap.size + 1 := by simp
    generalize w.alloc (.cells #[.bool true, c, d, .int .i64 W.hub.log.next, .int .i64 W.hub.log.epoch, .int .i64 W.hub.book.tick, .int .i64 W.hub.book.next, .int .i64 W.hub.book.wallet, .slice xa xn xc, .slice ya yn yc, .slice za zn zc, .int .i64 W.hub.ledger.last, .slice la ln lc, p, q, c2, d2, .slice ta tn tc, .slice sa sn sc, k] 62) = W1 at BW SW Z1 e0 e5 e6 e7 e8 e9 e10 e12 e17 e18 ⊢
    have eZ : Hid (S (lineR [117, 112] [(tn : Int), (sn : Int)]) ++ S (lineR [119, 97, 108, 108, 101, 116] [W.hub.book.wallet]) = S (repHead W)) := by unfold Hid; rw [S_append, hhd.out]
    have z0 : (S (lineR [117, 112] [(tn : Int), (sn : Int)])).size ≤ 39 := by rw [S_size]; have := lineR_len [117, 112] [(tn : Int), (sn : Int)]; simp at this ⊢; omega
    have z1 : (S (lineR [119, 97, 108, 108, 101, 116] [W.hub.book.wallet])).size ≤ 25 := by rw [S_size]; have := lineR_len [119, 97, 108, 108, 101, 116] [W.hub.book.wallet]; simp at this ⊢; omega
    have z2 : (S (lineR [117, 112] [(tn : Int), (sn : Int)]) ++ S (lineR [119, 97, 108, 108, 101, 116] [W.hub.book.wallet])).size ≤ 64 := by rw [ByteArray.size_append]; omega
    generalize hZa : S (lineR [117, 112] [(tn : Int), (sn : Int)]) = Za at eZ z0 z2
    generalize hZb : S (lineR [119, 97, 108, 108, 101, 116] [W.hub.book.wallet]) = Zb at eZ z1 z2
    rw [ByteArray.size_append] at z2
    have zi : ¬ ((9223372036854775807 : Int) < (Za.size : Int) + (Zb.size : Int)) := by omega
    have zn' : ¬ (9223372036854775807 < Za.size + Zb.size) := by omega
    have zd : decide ((9223372036854775807 : Int) < (Za.size : Int) + (Zb.size : Int)) = false := decide_eq_false zi
    have HZa := Lib.hid hZa
    have HZb := Lib.hid hZb
    clear hZa hZb
    go_cut [3] (fun s3 wx => s3 = .string (Za ++ Zb) ∧ Below W1.heap.size W1 wx)
    case first =>
      go_region_held3 (fun w' => w'.cell? ⟨w.heap.size, 17, none⟩ = some (.slice ta tn tc) ∧ w'.cell? ⟨w.heap.size, 18, none⟩ = some (.slice sa sn sc) ∧ w'.cell? ⟨w.heap.size, 7, none⟩ = some (.int .i64 W.hub.book.wallet)) (go_keep) (first
        | (go_at_call 23; (with_reducible show Calls _ _ #[Value.string ⟨#[117, 112]⟩, _] _ _); refine (line_spec ⟨#[117, 112]⟩ _ 2 2 [(tn : Int), (sn : Int)] _ (IS.of2 (by first | exact a0 | simp [go_sem, Z1]) (by first | exact a1 | simp [go_sem, Z1]) (by omega) (by omega)) (by decide) (by decide)).mono ?_; rintro e w3 ⟨he, hb3⟩; rw [show S (lineR (ByteArray.data ⟨#[117, 112]⟩).toList [(tn : Int), (sn : Int)]) = Za from HZa.out] at he; subst he; have B3 : Below W1.heap.size W1 w3 := below_via hb3 (by (repeat (first | (with_reducible exact Below.refl _ _) | (with_reducible assumption) | (with_reducible refine Below.setCell ?_ ?side _; case side => first | (with_reducible exact Nat.le_refl _) | (simp; done) | (simp only [World.size_alloc, World.size_setCell, World.size_drew, World.heap_drewN] at *; omega)) | (with_reducible refine below_alloc ?_ _) | (with_reducible refine Below.drew ?_) | (with_reducible refine below_drewN ?_) | (with_reducible refine below_via (by assumption) ?_)))); have g7 := cell_keep B3 e7; have g17 := cell_keep B3 e17; have g18 := cell_keep B3 e18; (try (have a2 : w3.cell? ⟨w.heap.size + 2, 0, none⟩ = some (.int .i64 W.hub.book.wallet) := by ((refine cell_keep hb3 ?_); (simp [go_sem, Z1]); done))); (try (have a2 : w3.cell? ⟨w.heap.size + 1, 0, none⟩ = some (.int .i64 W.hub.book.wallet) := by ((refine cell_keep hb3 ?_); (simp [go_sem, Z1]); done))))
        | (go_at_call 23; (with_reducible show Calls _ _ #[Value.string ⟨#[119, 97, 108, 108, 101, 116]⟩, _] _ _); refine (line_spec ⟨#[119, 97, 108, 108, 101, 116]⟩ _ 1 1 [W.hub.book.wallet] _ (IS.cell1 (by first | exact a2 | simp [go_sem, Z1]) Iw.out) (by decide) (by decide)).mono ?_; rintro e w4 ⟨he, hb4⟩; rw [show S (lineR (ByteArray.data ⟨#[119, 97, 108, 108, 101, 116]⟩).toList [W.hub.book.wallet]) = Zb from HZb.out] at he; subst he; have B4 : Below W1.heap.size W1 w4 := below_via hb4 (by (repeat (first | (with_reducible exact Below.refl _ _) | (with_reducible assumption) | (with_reducible refine Below.setCell ?_ ?side _; case side => first | (with_reducible exact Nat.le_refl _) | (simp; done) | (simp only [World.size_alloc, World.size_setCell, World.size_drew, World.heap_drewN] at *; omega)) | (with_reducible refine below_alloc ?_ _) | (with_reducible refine Below.drew ?_) | (with_reducible refine below_drewN ?_) | (with_reducible refine below_via (by assumption) ?_)))); have g7' := cell_keep B4 e7; have g17' := cell_keep B4 e17; have g18' := cell_keep B4 e18))
      all_goals
        go_wp2
        go_meet
        exact ⟨rfl, by (repeat (first | (with_reducible exact Below.refl _ _) | (with_reducible assumption) | (with_reducible refine Below.setCell ?_ ?side _; case side => first | (with_reducible exact Nat.le_refl _) | (simp; done) | (simp only [World.size_alloc, World.size_setCell, World.size_drew, World.heap_drewN] at *; omega)) | (with_reducible refine below_alloc ?_ _) | (with_reducible refine Below.drew ?_) | (with_reducible refine below_drewN ?_) | (with_reducible refine below_via (by assumption) ?_)))⟩
    case rest =>
      obtain ⟨rfl, B2⟩ := hcut
      obtain ⟨w2, hw2⟩ : ∃ w2 : World, w2 = wc := ⟨_, rfl⟩
      subst hw2
      have hf2 : Hid (Za ++ Zb = S (repHead W ++ (W.hub.book.chans.take 0).flatMap cnLine)) := by unfold Hid; rw [eZ.out]; simp
      have Bw : Below w.heap.size w w2 := below_via B2 BW
      have z3 : (Za ++ Zb).size ≤ 64 := by rw [ByteArray.size_append]; exact z2
      have f8 := cell_keep B2 e8
      have f4 := cell_keep B2 e9
      have f5 := cell_keep B2 e10
      have f12 := cell_keep B2 e12
      clear e0 e5 e6 e7 e8 e9 e10 e12 e17 e18 eZ hhd HZa HZb BW
      go_wp2
      go_loopw [3, 5, 43] (fun o _ i wr => ∃ (k : Nat) (t : ByteArray), k ≤ xn ∧ i = .int .i64 k ∧ o = .string t ∧ Hid (t = S (repHead W ++ (W.hub.book.chans.take k).flatMap cnLine)) ∧ t.size ≤ 100 + 200 * k ∧ Below w2.heap.size w2 wr) (fun _ _ i _ => xn - (intOf i).toNat)
      case atStart => exact ⟨0, _, Nat.zero_le _, rfl, rfl, hf2, by omega, Below.refl _ _⟩
      case round =>
        obtain ⟨k, t, hk, rfl, rfl, ht, hts, hB⟩ := hrel
        have hnb : xn ≤ 1048576 := by have := hB1.out.1; have := Lx.out; omega
        have BWr := below_via hB Bw
        by_cases hlt : k < xn
        · obtain ⟨g, off, x0, x1, x2, x3, x4, x5, x6, e0, hg, c0, c1, c2, c3, c4, c5, c6, o0, o1, o2, o3, o4, o5, o6, hx, hxt⟩ := CnS.cells (FS.keep hxs BWr) hlt
          have ft := Lib.hid (flat_step (f := cnLine) hxt.out)
          subst e0
          clear hxt hx
          go_wp2_with fail
          refine (line_spec ⟨#[99, 104, 97, 110]⟩ _ 6 6 [x0, x2, x3, x4, x5, x6] _ (IS.lit _ [x0, x2, x3, x4, x5, x6] #[.int .i64 x0, .int .i64 x2, .int .i64 x3, .int .i64 x4, .int .i64 x5, .int .i64 x6] 3 rfl (by intro a ha; simp only [List.mem_cons, List.not_mem_nil, or_false] at ha; rcases ha with rfl | rfl | rfl | rfl | rfl | rfl; all_goals assumption) (by simp) 6 rfl _ (by first | rfl | exact Z1 | simp)) (by decide) (by decide)).mono ?_
          rintro e w3 ⟨he, hb⟩
          obtain ⟨Z, hZ⟩ : ∃ Z, Z = S (lineR (ByteArray.data ⟨#[99, 104, 97, 110]⟩).toList [x0, x2, x3, x4, x5, x6]) := ⟨_, rfl⟩
          rw [← hZ] at he
          subst he
          have hZs : Z.size ≤ 121 := by rw [hZ, S_size]; have := lineR_len (ByteArray.data ⟨#[99, 104, 97, 110]⟩).toList [x0, x2, x3, x4, x5, x6]; simp at this ⊢; omega
          have hZ2 : (t ++ Z).size ≤ 100 + 200 * (k + 1) := by rw [ByteArray.size_append]; omega
          have hst : Hid (t ++ Z = S (repHead W ++ (W.hub.book.chans.take (k + 1)).flatMap cnLine)) := by
            unfold Hid
            rw [ft.out]
            exact str_step ht.out (by rw [hZ]; rfl)
          clear hZ
          have B3 : Below w2.heap.size w2 w3 := below_via hb (by (repeat (first | (with_reducible exact Below.refl _ _) | (with_reducible assumption) | (with_reducible refine Below.setCell ?_ ?side _; case side => first | (with_reducible exact Nat.le_refl _) | (simp; done) | (simp only [World.size_alloc, World.size_setCell, World.size_drew, World.heap_drewN] at *; omega)) | (with_reducible refine below_alloc ?_ _) | (with_reducible refine Below.drew ?_) | (with_reducible refine below_drewN ?_) | (with_reducible refine below_via (by assumption) ?_))))
          clear hb
          go_wp2
          go_roundw
          case rel => exact ⟨k + 1, _, by omega, by go_num, rfl, hst, hZ2, B3⟩
          case measure => simp [intOf]; omega
        · rw [List.take_of_length_le (by have := Lx.out; omega)] at ht
          have f4' := cell_keep hB f4
          go_wp2
          go_loopw [3, 7, 69] (fun o _ i wr => ∃ (k : Nat) (t : ByteArray), k ≤ yn ∧ i = .int .i64 k ∧ o = .string t ∧ Hid (t = S ((repHead W ++ W.hub.book.chans.flatMap cnLine) ++ (W.hub.book.htlcs.take k).flatMap htLine)) ∧ t.size ≤ 209715300 + 200 * k ∧ Below w2.heap.size w2 wr) (fun _ _ i _ => yn - (intOf i).toNat)
          case atStart => exact ⟨0, t, Nat.zero_le _, rfl, rfl, by unfold Hid; rw [ht.out]; simp, by omega, hB⟩
          case round =>
            obtain ⟨k, t, hk, rfl, rfl, ht, hts, hB⟩ := hrel
            have hnb : yn ≤ 1048576 := by have := hB1.out.2.1; have := Ly.out; omega
            have BWr := below_via hB Bw
            by_cases hlt : k < yn
            · obtain ⟨g, off, x0, x1, x2, x3, x4, x5, x6, e0, hg, c0, c1, c2, c3, c4, c5, c6, o0, o1, o2, o3, o4, o5, o6, hx, hxt⟩ := HtS.cells (FS.keep hys BWr) hlt
              have ft := Lib.hid (flat_step (f := htLine) hxt.out)
              subst e0
              clear hxt hx
              go_wp2_with fail
              refine (line_spec ⟨#[104, 116, 108, 99]⟩ _ 5 5 [x0, x1, x2, x3, x4] _ (IS.lit _ [x0, x1, x2, x3, x4] #[.int .i64 x0, .int .i64 x1, .int .i64 x2, .int .i64 x3, .int .i64 x4] 3 rfl (by intro a ha; simp only [List.mem_cons, List.not_mem_nil, or_false] at ha; rcases ha with rfl | rfl | rfl | rfl | rfl; all_goals assumption) (by simp) 5 rfl _ (by first | rfl | exact Z1 | simp)) (by decide) (by decide)).mono ?_
              rintro e w3 ⟨he, hb⟩
              obtain ⟨Z, hZ⟩ : ∃ Z, Z = S (lineR (ByteArray.data ⟨#[104, 116, 108, 99]⟩).toList [x0, x1, x2, x3, x4]) := ⟨_, rfl⟩
              rw [← hZ] at he
              subst he
              have hZs : Z.size ≤ 121 := by rw [hZ, S_size]; have := lineR_len (ByteArray.data ⟨#[104, 116, 108, 99]⟩).toList [x0, x1, x2, x3, x4]; simp at this ⊢; omega
              have hZ2 : (t ++ Z).size ≤ 209715300 + 200 * (k + 1) := by rw [ByteArray.size_append]; omega
              have hst : Hid (t ++ Z = S ((repHead W ++ W.hub.book.chans.flatMap cnLine) ++ (W.hub.book.htlcs.take (k + 1)).flatMap htLine)) := by
                unfold Hid
                rw [ft.out]
                exact str_step ht.out (by rw [hZ]; rfl)
              clear hZ
              have B3 : Below w2.heap.size w2 w3 := below_via hb (by (repeat (first | (with_reducible exact Below.refl _ _) | (with_reducible assumption) | (with_reducible refine Below.setCell ?_ ?side _; case side => first | (with_reducible exact Nat.le_refl _) | (simp; done) | (simp only [World.size_alloc, World.size_setCell, World.size_drew, World.heap_drewN] at *; omega)) | (with_reducible refine below_alloc ?_ _) | (with_reducible refine Below.drew ?_) | (with_reducible refine below_drewN ?_) | (with_reducible refine below_via (by assumption) ?_))))
              clear hb
              go_wp2
              go_roundw
              case rel => exact ⟨k + 1, _, by omega, by go_num, rfl, hst, hZ2, B3⟩
              case measure => simp [intOf]; omega
            · rw [List.take_of_length_le (by have := Ly.out; omega)] at ht
              have f5' := cell_keep hB f5
              go_wp2
              go_loopw [3, 9, 93] (fun o _ i wr => ∃ (k : Nat) (t : ByteArray), k ≤ zn ∧ i = .int .i64 k ∧ o = .string t ∧ Hid (t = S (((repHead W ++ W.hub.book.chans.flatMap cnLine) ++ W.hub.book.htlcs.flatMap htLine) ++ (W.hub.book.circles.take k).flatMap ciLine)) ∧ t.size ≤ 419430500 + 200 * k ∧ Below w2.heap.size w2 wr) (fun _ _ i _ => zn - (intOf i).toNat)
              case atStart => exact ⟨0, t, Nat.zero_le _, rfl, rfl, by unfold Hid; rw [ht.out]; simp, by omega, hB⟩
              case round =>
                obtain ⟨k, t, hk, rfl, rfl, ht, hts, hB⟩ := hrel
                have hnb : zn ≤ 1048576 := by have := hB1.out.2.2; have := Lz.out; omega
                have BWr := below_via hB Bw
                by_cases hlt : k < zn
                · obtain ⟨g, off, x0, x1, x2, x3, x4, e0, hg, c0, c1, c2, c3, c4, o0, o1, o2, o3, o4, hx, hxt⟩ := CiS.cells (FS.keep hzs BWr) hlt
                  have ft := Lib.hid (flat_step (f := ciLine) hxt.out)
                  subst e0
                  clear hxt hx
                  go_wp2_with fail
                  refine (line_spec ⟨#[99, 105, 114, 99, 108, 101]⟩ _ 5 5 [x0, x1, x2, x3, x4] _ (IS.lit _ [x0, x1, x2, x3, x4] #[.int .i64 x0, .int .i64 x1, .int .i64 x2, .int .i64 x3, .int .i64 x4] 3 rfl (by intro a ha; simp only [List.mem_cons, List.not_mem_nil, or_false] at ha; rcases ha with rfl | rfl | rfl | rfl | rfl; all_goals assumption) (by simp) 5 rfl _ (by first | rfl | exact Z1 | simp)) (by decide) (by decide)).mono ?_
                  rintro e w3 ⟨he, hb⟩
                  obtain ⟨Z, hZ⟩ : ∃ Z, Z = S (lineR (ByteArray.data ⟨#[99, 105, 114, 99, 108, 101]⟩).toList [x0, x1, x2, x3, x4]) := ⟨_, rfl⟩
                  rw [← hZ] at he
                  subst he
                  have hZs : Z.size ≤ 121 := by rw [hZ, S_size]; have := lineR_len (ByteArray.data ⟨#[99, 105, 114, 99, 108, 101]⟩).toList [x0, x1, x2, x3, x4]; simp at this ⊢; omega
                  have hZ2 : (t ++ Z).size ≤ 419430500 + 200 * (k + 1) := by rw [ByteArray.size_append]; omega
                  have hst : Hid (t ++ Z = S (((repHead W ++ W.hub.book.chans.flatMap cnLine) ++ W.hub.book.htlcs.flatMap htLine) ++ (W.hub.book.circles.take (k + 1)).flatMap ciLine)) := by
                    unfold Hid
                    rw [ft.out]
                    exact str_step ht.out (by rw [hZ]; rfl)
                  clear hZ
                  have B3 : Below w2.heap.size w2 w3 := below_via hb (by (repeat (first | (with_reducible exact Below.refl _ _) | (with_reducible assumption) | (with_reducible refine Below.setCell ?_ ?side _; case side => first | (with_reducible exact Nat.le_refl _) | (simp; done) | (simp only [World.size_alloc, World.size_setCell, World.size_drew, World.heap_drewN] at *; omega)) | (with_reducible refine below_alloc ?_ _) | (with_reducible refine Below.drew ?_) | (with_reducible refine below_drewN ?_) | (with_reducible refine below_via (by assumption) ?_))))
                  clear hb
                  go_wp2
                  go_roundw
                  case rel => exact ⟨k + 1, _, by omega, by go_num, rfl, hst, hZ2, B3⟩
                  case measure => simp [intOf]; omega
                · rw [List.take_of_length_le (by have := Lz.out; omega)] at ht
                  have f12' := cell_keep hB f12
                  go_wp2
                  go_loopw [3, 11, 117] (fun o _ i wr => ∃ (k : Nat) (t : ByteArray), k ≤ ln ∧ i = .int .i64 k ∧ o = .string t ∧ Hid (t = S ((((repHead W ++ W.hub.book.chans.flatMap cnLine) ++ W.hub.book.htlcs.flatMap htLine) ++ W.hub.book.circles.flatMap ciLine) ++ (W.hub.ledger.lines.take k).flatMap lnLine)) ∧ t.size ≤ 629145700 + 200 * k ∧ Below w2.heap.size w2 wr) (fun _ _ i _ => ln - (intOf i).toNat)
                  case atStart => exact ⟨0, t, Nat.zero_le _, rfl, rfl, by unfold Hid; rw [ht.out]; simp, by omega, hB⟩
                  case round =>
                    obtain ⟨k, t, hk, rfl, rfl, ht, hts, hB⟩ := hrel
                    have hnb : ln ≤ 1048576 := by have := (show W.hub.ledger.lines.length ≤ 1048576 from hB2.out); have := Ll.out; omega
                    have BWr := below_via hB Bw
                    by_cases hlt : k < ln
                    · obtain ⟨g, off, x0, x1, x2, e0, hg, c0, c1, c2, o0, o1, o2, hx, hxt⟩ := LnS.cells (FS.keep hls BWr) hlt
                      have ft := Lib.hid (flat_step (f := lnLine) hxt.out)
                      subst e0
                      clear hxt hx
                      have hAs : (S (accText x0 x1)).size ≤ 1048576 := by rw [S_size]; have := accText_len x0 x1; omega
                      go_wp2_with fail
                      go_region_with (first
                        | (go_at_call 24; refine (accText_spec x0 x1 o1 _).mono ?_; rintro e w4 ⟨rfl, hb4⟩; have B4 : Below w2.heap.size w2 w4 := below_via hb4 (by (repeat (first | (with_reducible exact Below.refl _ _) | (with_reducible assumption) | (with_reducible refine Below.setCell ?_ ?side _; case side => first | (with_reducible exact Nat.le_refl _) | (simp; done) | (simp only [World.size_alloc, World.size_setCell, World.size_drew, World.heap_drewN] at *; omega)) | (with_reducible refine below_alloc ?_ _) | (with_reducible refine Below.drew ?_) | (with_reducible refine below_drewN ?_) | (with_reducible refine below_via (by assumption) ?_)))); have B5 : Below w.heap.size w w4 := below_via B4 Bw; have a2 := cell_keep hb4 (show World.cell? _ ⟨wr.heap.size, 2, none⟩ = some (.int .i64 x2) by simp [go_sem]); (try (have a3 : w4.cell? ⟨wr.heap.size + 1, 0, none⟩ = some (.int .i64 x2) := by ((refine cell_keep hb4 ?_); (simp [go_sem]); done))); clear hb4)
                        | (go_at_call 23; refine (line_spec (S (accText x0 x1)) _ 1 1 [x2] _ (IS.cell1 (by first | exact a3 | simp [go_sem]) o2) (by decide) hAs).mono ?_; rintro e w5 ⟨he, hb5⟩; obtain ⟨Z, hZ⟩ : ∃ Z, Z = S (lineR (S (accText x0 x1)).data.toList [x2]) := ⟨_, rfl⟩; rw [← hZ] at he; subst he; have hZs : Z.size ≤ 61 := (by rw [hZ]; exact accR_len x0 x1 x2); have hZ2 : (t ++ Z).size ≤ 629145700 + 200 * (k + 1) := (by rw [ByteArray.size_append]; omega); have hst : Hid (t ++ Z = S ((((repHead W ++ W.hub.book.chans.flatMap cnLine) ++ W.hub.book.htlcs.flatMap htLine) ++ W.hub.book.circles.flatMap ciLine) ++ (W.hub.ledger.lines.take (k + 1)).flatMap lnLine)) := (by unfold Hid; rw [ft.out]; exact str_step ht.out (by rw [hZ, S_list] <;> rfl)); clear hZ; have B6 : Below w2.heap.size w2 w5 := below_via hb5 (by (repeat (first | (with_reducible exact Below.refl _ _) | (with_reducible assumption) | (with_reducible refine Below.setCell ?_ ?side _; case side => first | (with_reducible exact Nat.le_refl _) | (simp; done) | (simp only [World.size_alloc, World.size_setCell, World.size_drew, World.heap_drewN] at *; omega)) | (with_reducible refine below_alloc ?_ _) | (with_reducible refine Below.drew ?_) | (with_reducible refine below_drewN ?_) | (with_reducible refine below_via (by assumption) ?_)))); clear hb5))
                      all_goals
                        go_wp2
                        go_roundw
                        case rel => exact ⟨k + 1, _, by omega, by go_num, rfl, hst, hZ2, by (repeat (first | (with_reducible exact Below.refl _ _) | (with_reducible assumption) | (with_reducible refine Below.setCell ?_ ?side _; case side => first | (with_reducible exact Nat.le_refl _) | (simp; done) | (simp only [World.size_alloc, World.size_setCell, World.size_drew, World.heap_drewN] at *; omega)) | (with_reducible refine below_alloc ?_ _) | (with_reducible refine Below.drew ?_) | (with_reducible refine below_drewN ?_) | (with_reducible refine below_via (by assumption) ?_)))⟩
                        case measure => simp [intOf]; omega
                    · rw [List.take_of_length_le (by have := Ll.out; omega)] at ht
                      have hfin := Lib.hid (show t = S (repW W) by rw [ht.out, hr.out])
                      go_wp2
                      go_ret
                      exact ⟨by rw [← hfin.out]; rfl, below_via hB Bw⟩

end Go.Proofs.YtafbdbefmlgioaaGreatDoor
