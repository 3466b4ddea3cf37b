/- Reports: the program. -/
import Derived.Test.YtafbdbefmlgioaaGreatDoorRepN
import Derived.Deep.RegionWith
import Derived.Deep.DeepCutAuto
import Derived.Deep.RegionHeld3
namespace Go.Proofs.YtafbdbefmlgioaaGreatDoor
open Go.RowKit
set_option linter.unusedVariables false
set_option linter.unusedSimpArgs false

set_option maxRecDepth 100000 in
set_option maxHeartbeats 12800000 in
theorem report_impl (c d x y z l p q c2 d2 t s k : Value) (W : Wd) (w : World) (V : WdV w w.heap.size c d x y z l p q c2 d2 t s k W) (hB : WdB W) (T : PM w) : Calls Tryz.prog 9 #[.agg #[.bool W.up, c, d, .int .i64 W.hub.log.next, .int .i64 W.hub.log.epoch, .int .i64 W.hub.book.tick, .int .i64 W.hub.book.next, .int .i64 W.hub.book.wallet, x, y, z, .int .i64 W.hub.ledger.last, l, p, q, c2, d2, t, s, k]] w fun e w' => e = .returned (.string (S (repW W))) ∧ Below w.heap.size w w' := by
  have VB := V.hub.book
  have VL := V.hub.ledger
  have Iw := Lib.hid VB.ints.2.2
  have hB1 := Lib.hid hB.1.2.1
  have hB2 := Lib.hid hB.1.2.2.1
  have hB3 := Lib.hid hB.2.2
  obtain ⟨xa, xn, xc, hx, -, -, hxs⟩ := id V.hub.book.chans
  obtain ⟨ya, yn, yc, hy, -, -, hys⟩ := id V.hub.book.htlcs
  obtain ⟨za, zn, zc, hz, -, -, hzs⟩ := id V.hub.book.circles
  obtain ⟨la, ln, lc, hl, -, -, hls⟩ := id V.hub.ledger.lines
  obtain ⟨ta, tn, tc, ht, -, -, hts⟩ := id V.took
  obtain ⟨sa, sn, sc, hs, -, -, hss⟩ := id V.sent
  subst hx hy hz hl ht hs
  have Lx := Lib.hid hxs.1
  have Ly := Lib.hid hys.1
  have Lz := Lib.hid hzs.1
  have Ll := Lib.hid hls.1
  have Lt := Lib.hid hts.1
  have Ls := Lib.hid hss.1
  have tnb : tn ≤ 1048576 := by have := hB3.out.1; have := Lt.out; omega
  have snb : sn ≤ 1048576 := by have := hB3.out.2.1; have := Ls.out; omega
  clear VB VL
  cases hu : W.up with
  | false =>
    have hr : Hid (S (lineR [100, 111, 119, 110] [(tn : Int), (sn : Int)]) = S (repW W)) := by unfold Hid repW; rw [hu, if_neg (by simp), Lt.out, Ls.out]
    go_enter Tryz.func9, Tryz.ntmps9
    go_wp2_with fail
    refine (withNumbers_all ⟨#[100, 111, 119, 110]⟩ _ 2 2 [(tn : Int), (sn : Int)] _ (IS.lit _ [(tn : Int), (sn : Int)] #[.int .i64 (tn : Int), .int .i64 (sn : Int)] 3 rfl (by intro a ha; simp only [List.mem_cons, List.not_mem_nil, or_false] at ha; rcases ha with rfl | rfl <;> omega) (by simp) 2 rfl _ (by first | rfl | exact Z1 | simp)) (T.pow.keep (by (repeat (first | (with_reducible exact Below.refl _ _) | (with_reducible assumption) | (with_reducible refine Below.setCell ?_ ?side _; case side => first | (with_reducible exact Nat.le_refl _) | (simp; done) | (simp only [World.size_alloc, World.size_setCell, World.size_drew, World.heap_drewN] at *; omega)) | (with_reducible refine below_alloc ?_ _) | (with_reducible refine Below.drew ?_) | (with_reducible refine below_drewN ?_) | (with_reducible refine below_via (by assumption) ?_))))) (by decide) (by decide)).mono ?_
    rintro e w1 ⟨he, hb⟩
    obtain ⟨Z, hZ⟩ : ∃ Z, Z = S ((ByteArray.data ⟨#[100, 111, 119, 110]⟩).toList ++ tailN [(tn : Int), (sn : Int)]) := ⟨_, rfl⟩
    rw [← hZ] at he
    subst he
    have hZs : Z.size ≤ 40 := by rw [hZ, S_size, List.length_append]; have := tailN_len [(tn : Int), (sn : Int)]; simp at this ⊢; omega
    have hZ1 : (Z ++ (⟨#[10]⟩ : ByteArray)).size ≤ 41 := by rw [ByteArray.size_append]; show Z.size + 1 ≤ _; omega
    have hf : Hid (Z ++ (⟨#[10]⟩ : ByteArray) = S (repW W)) := by unfold Hid; rw [← hr.out, hZ, show (⟨#[10]⟩ : ByteArray) = S [10] from rfl, S_append]; rfl
    have B1 : Below w.heap.size w w1 := below_via hb (by (repeat (first | (with_reducible exact Below.refl _ _) | (with_reducible assumption) | (with_reducible refine Below.setCell ?_ ?side _; case side => first | (with_reducible exact Nat.le_refl _) | (simp; done) | (simp only [World.size_alloc, World.size_setCell, World.size_drew, World.heap_drewN] at *; omega)) | (with_reducible refine below_alloc ?_ _) | (with_reducible refine Below.drew ?_) | (with_reducible refine below_drewN ?_) | (with_reducible refine below_via (by assumption) ?_))))
    obtain ⟨hc0, hf0, hs0, hz0⟩ := brules hb
    clear hZ
    go_wp2
    go_ret
    exact ⟨by rw [← hf.out]; rfl, by (repeat (first | (with_reducible exact Below.refl _ _) | (with_reducible assumption) | (with_reducible refine Below.setCell ?_ ?side _; case side => first | (with_reducible exact Nat.le_refl _) | (simp; done) | (simp only [World.size_alloc, World.size_setCell, World.size_drew, World.heap_drewN] at *; omega)) | (with_reducible refine below_alloc ?_ _) | (with_reducible refine Below.drew ?_) | (with_reducible refine below_drewN ?_) | (with_reducible refine below_via (by assumption) ?_)))⟩
  | true =>
    have hr : Hid (repW W = (((repHead W ++ W.hub.book.chans.flatMap cnLine) ++ W.hub.book.htlcs.flatMap htLine) ++ W.hub.book.circles.flatMap ciLine) ++ W.hub.ledger.lines.flatMap lnLine) := by unfold Hid repW; rw [hu, if_pos rfl]
    have hhd : Hid (repHead W = lineR [117, 112] [(tn : Int), (sn : Int)] ++ lineR [119, 97, 108, 108, 101, 116] [W.hub.book.wallet]) := by unfold Hid repHead; rw [Lt.out, Ls.out]
    go_enter Tryz.func9, Tryz.ntmps9
    go_wp2_with fail
    have BW : Below w.heap.size w (w.alloc (.cells #[.bool true, c, d, .int .i64 W.hub.log.next, .int .i64 W.hub.log.epoch, .int .i64 W.hub.book.tick, .int .i64 W.hub.book.next, .int .i64 W.hub.book.wallet, .slice xa xn xc, .slice ya yn yc, .slice za zn zc, .int .i64 W.hub.ledger.last, .slice la ln lc, p, q, c2, d2, .slice ta tn tc, .slice sa sn sc, k] 62)) := by (repeat (first | (with_reducible exact Below.refl _ _) | (with_reducible assumption) | (with_reducible refine Below.setCell ?_ ?side _; case side => first | (with_reducible exact Nat.le_refl _) | (simp; done) | (simp only [World.size_alloc, World.size_setCell, World.size_drew, World.heap_drewN] at *; omega)) | (with_reducible refine below_alloc ?_ _) | (with_reducible refine Below.drew ?_) | (with_reducible refine below_drewN ?_) | (with_reducible refine below_via (by assumption) ?_)))
    have SW : w.heap.size < (w.alloc (.cells #[.bool true, c, d, .int .i64 W.hub.log.next, .int .i64 W.hub.log.epoch, .int .i64 W.hub.book.tick, .int .i64 W.hub.book.next, .int .i64 W.hub.book.wallet, .slice xa xn xc, .slice ya yn yc, .slice za zn zc, .int .i64 W.hub.ledger.last, .slice la ln lc, p, q, c2, d2, .slice ta tn tc, .slice sa sn sc, k] 62)).heap.size := by simp
    have e0 : (w.alloc (.cells #[.bool true, c, d, .int .i64 W.hub.log.next, .int .i64 W.hub.log.epoch, .int .i64 W.hub.book.tick, .int .i64 W.hub.book.next, .int .i64 W.hub.book.wallet, .slice xa xn xc, .slice ya yn yc, .slice za zn zc, .int .i64 W.hub.ledger.last, .slice la ln lc, p, q, c2, d2, .slice ta tn tc, .slice sa sn sc, k] 62)).cell? ⟨w.heap.size, 0, none⟩ = some (.bool true) := by simp [go_sem]
    have e5 : (w.alloc (.cells #[.bool true, c, d, .int .i64 W.hub.log.next, .int .i64 W.hub.log.epoch, .int .i64 W.hub.book.tick, .int .i64 W.hub.book.next, .int .i64 W.hub.book.wallet, .slice xa xn xc, .slice ya yn yc, .slice za zn zc, .int .i64 W.hub.ledger.last, .slice la ln lc, p, q, c2, d2, .slice ta tn tc, .slice sa sn sc, k] 62)).cell? ⟨w.heap.size, 5, none⟩ = some (.int .i64 W.hub.book.tick) := by simp [go_sem]
    have e6 : (w.alloc (.cells #[.bool true, c, d, .int .i64 W.hub.log.next, .int .i64 W.hub.log.epoch, .int .i64 W.hub.book.tick, .int .i64 W.hub.book.next, .int .i64 W.hub.book.wallet, .slice xa xn xc, .slice ya yn yc, .slice za zn zc, .int .i64 W.hub.ledger.last, .slice la ln lc, p, q, c2, d2, .slice ta tn tc, .slice sa sn sc, k] 62)).cell? ⟨w.heap.size, 6, none⟩ = some (.int .i64 W.hub.book.next) := by simp [go_sem]
    have e7 : (w.alloc (.cells #[.bool true, c, d, .int .i64 W.hub.log.next, .int .i64 W.hub.log.epoch, .int .i64 W.hub.book.tick, .int .i64 W.hub.book.next, .int .i64 W.hub.book.wallet, .slice xa xn xc, .slice ya yn yc, .slice za zn zc, .int .i64 W.hub.ledger.last, .slice la ln lc, p, q, c2, d2, .slice ta tn tc, .slice sa sn sc, k] 62)).cell? ⟨w.heap.size, 7, none⟩ = some (.int .i64 W.hub.book.wallet) := by simp [go_sem]
    have e8 : (w.alloc (.cells #[.bool true, c, d, .int .i64 W.hub.log.next, .int .i64 W.hub.log.epoch, .int .i64 W.hub.book.tick, .int .i64 W.hub.book.next, .int .i64 W.hub.book.wallet, .slice xa xn xc, .slice ya yn yc, .slice za zn zc, .int .i64 W.hub.ledger.last, .slice la ln lc, p, q, c2, d2, .slice ta tn tc, .slice sa sn sc, k] 62)).cell? ⟨w.heap.size, 8, none⟩ = some (.slice xa xn xc) := by simp [go_sem]
    have e9 : (w.alloc (.cells #[.bool true, c, d, .int .i64 W.hub.log.next, .int .i64 W.hub.log.epoch, .int .i64 W.hub.book.tick, .int .i64 W.hub.book.next, .int .i64 W.hub.book.wallet, .slice xa xn xc, .slice ya yn yc, .slice za zn zc, .int .i64 W.hub.ledger.last, .slice la ln lc, p, q, c2, d2, .slice ta tn tc, .slice sa sn sc, k] 62)).cell? ⟨w.heap.size, 9, none⟩ = some (.slice ya yn yc) := by simp [go_sem]
    have e10 : (w.alloc (.cells #[.bool true, c, d, .int .i64 W.hub.log.next, .int .i64 W.hub.log.epoch, .int .i64 W.hub.book.tick, .int .i64 W.hub.book.next, .int .i64 W.hub.book.wallet, .slice xa xn xc, .slice ya yn yc, .slice za zn zc, .int .i64 W.hub.ledger.last, .slice la ln lc, p, q, c2, d2, .slice ta tn tc, .slice sa sn sc, k] 62)).cell? ⟨w.heap.size, 10, none⟩ = some (.slice za zn zc) := by simp [go_sem]
    have e12 : (w.alloc (.cells #[.bool true, c, d, .int .i64 W.hub.log.next, .int .i64 W.hub.log.epoch, .int .i64 W.hub.book.tick, .int .i64 W.hub.book.next, .int .i64 W.hub.book.wallet, .slice xa xn xc, .slice ya yn yc, .slice za zn zc, .int .i64 W.hub.ledger.last, .slice la ln lc, p, q, c2, d2, .slice ta tn tc, .slice sa sn sc, k] 62)).cell? ⟨w.heap.size, 12, none⟩ = some (.slice la ln lc) := by simp [go_sem]
    have e17 : (w.alloc (.cells #[.bool true, c, d, .int .i64 W.hub.log.next, .int .i64 W.hub.log.epoch, .int .i64 W.hub.book.tick, .int .i64 W.hub.book.next, .int .i64 W.hub.book.wallet, .slice xa xn xc, .slice ya yn yc, .slice za zn zc, .int .i64 W.hub.ledger.last, .slice la ln lc, p, q, c2, d2, .slice ta tn tc, .slice sa sn sc, k] 62)).cell? ⟨w.heap.size, 17, none⟩ = some (.slice ta tn tc) := by simp [go_sem]
    have e18 : (w.alloc (.cells #[.bool true, c, d, .int .i64 W.hub.log.next, .int .i64 W.hub.log.epoch, .int .i64 W.hub.book.tick, .int .i64 W.hub.book.next, .int .i64 W.hub.book.wallet, .slice xa xn xc, .slice ya yn yc, .slice za zn zc, .int .i64 W.hub.ledger.last, .slice la ln lc, p, q, c2, d2, .slice ta tn tc, .slice sa sn sc, k] 62)).cell? ⟨w.heap.size, 18, none⟩ = some (.slice sa sn sc) := by simp [go_sem]
    have Z1 : (w.alloc (.cells #[.bool true, c, d, .int .i64 W.hub.log.next, .int .i64 W.hub.log.epoch, .int .i64 W.hub.book.tick, .int .i64 W.hub.book.next, .int .i64 W.hub.book.wallet, .slice xa xn xc, .slice ya yn yc, .slice za zn zc, .int .i64 W.hub.ledger.last, .slice la ln lc, p, q, c2, d2, .slice ta tn tc, .slice sa sn sc, k] 62)).heap.size = w.heap.size + 1 := by simp
    generalize w.alloc (.cells #[.bool true, c, d, .int .i64 W.hub.log.next, .int .i64 W.hub.log.epoch, .int .i64 W.hub.book.tick, .int .i64 W.hub.book.next, .int .i64 W.hub.book.wallet, .slice xa xn xc, .slice ya yn yc, .slice za zn zc, .int .i64 W.hub.ledger.last, .slice la ln lc, p, q, c2, d2, .slice ta tn tc, .slice sa sn sc, k] 62) = W1 at BW SW Z1 e0 e5 e6 e7 e8 e9 e10 e12 e17 e18 ⊢
    refine (withNumbers_all ⟨#[117, 112]⟩ _ 2 2 [(tn : Int), (sn : Int)] _ (IS.lit _ [(tn : Int), (sn : Int)] #[.int .i64 (tn : Int), .int .i64 (sn : Int)] 3 rfl (by intro a ha; simp only [List.mem_cons, List.not_mem_nil, or_false] at ha; rcases ha with rfl | rfl <;> omega) (by simp) 2 rfl _ (by first | rfl | exact Z1 | simp)) (T.pow.keep (by (repeat (first | (with_reducible exact Below.refl _ _) | (with_reducible assumption) | (with_reducible refine Below.setCell ?_ ?side _; case side => first | (with_reducible exact Nat.le_refl _) | (simp; done) | (simp only [World.size_alloc, World.size_setCell, World.size_drew, World.heap_drewN] at *; omega)) | (with_reducible refine below_alloc ?_ _) | (with_reducible refine Below.drew ?_) | (with_reducible refine below_drewN ?_) | (with_reducible refine below_via (by assumption) ?_))))) (by decide) (by decide)).mono ?_
    rintro e w1 ⟨he, hb⟩
    obtain ⟨Z, hZ⟩ : ∃ Z, Z = S ((ByteArray.data ⟨#[117, 112]⟩).toList ++ tailN [(tn : Int), (sn : Int)]) := ⟨_, rfl⟩
    rw [← hZ] at he
    subst he
    have hZs : Z.size ≤ 38 := by rw [hZ, S_size, List.length_append]; have := tailN_len [(tn : Int), (sn : Int)]; simp at this ⊢; omega
    have hZ1 : (Z ++ (⟨#[10]⟩ : ByteArray)).size ≤ 39 := by rw [ByteArray.size_append]; show Z.size + 1 ≤ _; omega
    have hf : Hid (Z ++ (⟨#[10]⟩ : ByteArray) = S (lineR [117, 112] [(tn : Int), (sn : Int)])) := by unfold Hid; rw [hZ, show (⟨#[10]⟩ : ByteArray) = S [10] from rfl, S_append]; rfl
    have B1 : Below W1.heap.size W1 w1 := below_via hb (by (repeat (first | (with_reducible exact Below.refl _ _) | (with_reducible assumption) | (with_reducible refine Below.setCell ?_ ?side _; case side => first | (with_reducible exact Nat.le_refl _) | (simp; done) | (simp only [World.size_alloc, World.size_setCell, World.size_drew, World.heap_drewN] at *; omega)) | (with_reducible refine below_alloc ?_ _) | (with_reducible refine Below.drew ?_) | (with_reducible refine below_drewN ?_) | (with_reducible refine below_via (by assumption) ?_))))
    obtain ⟨hc0, hf0, hs0, hz0⟩ := brules B1
    clear hZ
    go_wp2_with fail
    refine (withNumbers_all ⟨#[119, 97, 108, 108, 101, 116]⟩ _ 1 1 [W.hub.book.wallet] _ (IS.lit _ [W.hub.book.wallet] #[.int .i64 W.hub.book.wallet] 3 rfl (by intro a ha; simp only [List.mem_cons, List.not_mem_nil, or_false] at ha; subst ha; exact Iw.out) (by simp) 1 rfl _ (by first | rfl | exact Z1 | simp)) (T.pow.keep (BW.trans (Below.mono (show Below W1.heap.size W1 _ from by (repeat (first | (with_reducible exact Below.refl _ _) | (with_reducible assumption) | (with_reducible refine Below.setCell ?_ ?side _; case side => first | (with_reducible exact Nat.le_refl _) | (simp; done) | (simp only [World.size_alloc, World.size_setCell, World.size_drew, World.heap_drewN] at *; omega)) | (with_reducible refine below_alloc ?_ _) | (with_reducible refine Below.drew ?_) | (with_reducible refine below_drewN ?_) | (with_reducible refine below_via (by assumption) ?_)))) (Nat.le_of_lt SW)))) (by decide) (by decide)).mono ?_
    rintro e w2 ⟨he, hb2⟩
    obtain ⟨Z2, hZ2⟩ : ∃ Z2, Z2 = S ((ByteArray.data ⟨#[119, 97, 108, 108, 101, 116]⟩).toList ++ tailN [W.hub.book.wallet]) := ⟨_, rfl⟩
    rw [← hZ2] at he
    subst he
    have hY0 : Z2.size ≤ 24 := by rw [hZ2, S_size, List.length_append]; have := tailN_len [W.hub.book.wallet]; simp at this ⊢; omega
    have hY1 : (Z2 ++ (⟨#[10]⟩ : ByteArray)).size ≤ 25 := by rw [ByteArray.size_append]; show Z2.size + 1 ≤ _; omega
    have hY2 : ((Z ++ (⟨#[10]⟩ : ByteArray)) ++ (Z2 ++ (⟨#[10]⟩ : ByteArray))).size ≤ 64 := by rw [ByteArray.size_append]; omega
    have hf2 : Hid ((Z ++ (⟨#[10]⟩ : ByteArray)) ++ (Z2 ++ (⟨#[10]⟩ : ByteArray)) = S (repHead W ++ (W.hub.book.chans.take 0).flatMap cnLine)) := by
      unfold Hid
      rw [hf.out, hZ2, show (⟨#[10]⟩ : ByteArray) = S [10] from rfl, S_append, S_append, hhd.out]
      simp [lineR]
    clear hZ2
    have f3 : w2.cell? ⟨w1.heap.size, 3, none⟩ = some (.slice xa xn xc) := cell_keep hb2 (by simp [go_sem])
    have f4 : w2.cell? ⟨w1.heap.size, 4, none⟩ = some (.slice ya yn yc) := cell_keep hb2 (by simp [go_sem])
    have f5 : w2.cell? ⟨w1.heap.size, 5, none⟩ = some (.slice za zn zc) := cell_keep hb2 (by simp [go_sem])
    have B2 : Below W1.heap.size W1 w2 := below_via hb2 (by (repeat (first | (with_reducible exact Below.refl _ _) | (with_reducible assumption) | (with_reducible refine Below.setCell ?_ ?side _; case side => first | (with_reducible exact Nat.le_refl _) | (simp; done) | (simp only [World.size_alloc, World.size_setCell, World.size_drew, World.heap_drewN] at *; omega)) | (with_reducible refine below_alloc ?_ _) | (with_reducible refine Below.drew ?_) | (with_reducible refine below_drewN ?_) | (with_reducible refine below_via (by assumption) ?_))))
    have f12 := cell_keep B2 e12
    have Bw : Below w.heap.size w w2 := below_via B2 BW
    clear hc0 hf0 hs0 hz0 hb hb2 B1 B2 BW e0 e5 e6 e7 e8 e9 e10 e12 e17 e18 hf hhd
    generalize w1.heap.size = bb at f3 f4 f5 ⊢
    go_wp2
    go_loopw [4, 7, 43] (fun o _ i wr => ∃ (k : Nat) (t : ByteArray), k ≤ xn ∧ i = .int .i64 k ∧ o = .string t ∧ Hid (t = S (repHead W ++ (W.hub.book.chans.take k).flatMap cnLine)) ∧ t.size ≤ 100 + 200 * k ∧ Below w2.heap.size w2 wr) (fun _ _ i _ => xn - (intOf i).toNat)
    case atStart => exact ⟨0, _, Nat.zero_le _, rfl, rfl, hf2, by omega, Below.refl _ _⟩
    case round =>
      obtain ⟨k, t, hk, rfl, rfl, ht, hts, hB⟩ := hrel
      have hnb : xn ≤ 1048576 := by have := hB1.out.1; have := Lx.out; omega
      have BWr := below_via hB Bw
      by_cases hlt : k < xn
      · obtain ⟨g, off, x0, x1, x2, x3, x4, x5, x6, e0, hg, c0, c1, c2, c3, c4, c5, c6, o0, o1, o2, o3, o4, o5, o6, hx, hxt⟩ := CnS.cells (FS.keep hxs BWr) hlt
        have ft := Lib.hid (flat_step (f := cnLine) hxt.out)
        subst e0
        clear hxt hx
        go_wp2_with fail
        refine (withNumbers_all ⟨#[99, 104, 97, 110]⟩ _ 6 6 [x0, x2, x3, x4, x5, x6] _ (IS.lit _ [x0, x2, x3, x4, x5, x6] #[.int .i64 x0, .int .i64 x2, .int .i64 x3, .int .i64 x4, .int .i64 x5, .int .i64 x6] 3 rfl (by intro a ha; simp only [List.mem_cons, List.not_mem_nil, or_false] at ha; rcases ha with rfl | rfl | rfl | rfl | rfl | rfl; all_goals assumption) (by simp) 6 rfl _ (by first | rfl | exact Z1 | simp)) (T.pow.keep (by (repeat (first | (with_reducible exact Below.refl _ _) | (with_reducible assumption) | (with_reducible refine Below.setCell ?_ ?side _; case side => first | (with_reducible exact Nat.le_refl _) | (simp; done) | (simp only [World.size_alloc, World.size_setCell, World.size_drew, World.heap_drewN] at *; omega)) | (with_reducible refine below_alloc ?_ _) | (with_reducible refine Below.drew ?_) | (with_reducible refine below_drewN ?_) | (with_reducible refine below_via (by assumption) ?_))))) (by decide) (by decide)).mono ?_
        rintro e w3 ⟨he, hb⟩
        obtain ⟨Z, hZ⟩ : ∃ Z, Z = S ((ByteArray.data ⟨#[99, 104, 97, 110]⟩).toList ++ tailN [x0, x2, x3, x4, x5, x6]) := ⟨_, rfl⟩
        rw [← hZ] at he
        subst he
        have hZs : Z.size ≤ 120 := by rw [hZ, S_size, List.length_append]; have := tailN_len [x0, x2, x3, x4, x5, x6]; simp at this ⊢; omega
        have hZ1 : (Z ++ (⟨#[10]⟩ : ByteArray)).size ≤ 121 := by rw [ByteArray.size_append]; show Z.size + 1 ≤ _; omega
        have hZ2 : (t ++ (Z ++ (⟨#[10]⟩ : ByteArray))).size ≤ 100 + 200 * (k + 1) := by rw [ByteArray.size_append]; omega
        have hst : Hid (t ++ (Z ++ (⟨#[10]⟩ : ByteArray)) = S (repHead W ++ (W.hub.book.chans.take (k + 1)).flatMap cnLine)) := by
          unfold Hid
          rw [ft.out]
          exact str_step ht.out (by rw [hZ, show (⟨#[10]⟩ : ByteArray) = S [10] from rfl, S_append]; rfl)
        clear hZ
        have B3 : Below w2.heap.size w2 w3 := below_via hb (by (repeat (first | (with_reducible exact Below.refl _ _) | (with_reducible assumption) | (with_reducible refine Below.setCell ?_ ?side _; case side => first | (with_reducible exact Nat.le_refl _) | (simp; done) | (simp only [World.size_alloc, World.size_setCell, World.size_drew, World.heap_drewN] at *; omega)) | (with_reducible refine below_alloc ?_ _) | (with_reducible refine Below.drew ?_) | (with_reducible refine below_drewN ?_) | (with_reducible refine below_via (by assumption) ?_))))
        clear hb
        go_wp2
        go_roundw
        case rel => exact ⟨k + 1, _, by omega, by go_num, rfl, hst, hZ2, B3⟩
        case measure => simp [intOf]; omega
      · rw [List.take_of_length_le (by have := Lx.out; omega)] at ht
        have f4' := cell_keep hB f4
        go_wp2
        go_loopw [4, 9, 68] (fun o _ i wr => ∃ (k : Nat) (t : ByteArray), k ≤ yn ∧ i = .int .i64 k ∧ o = .string t ∧ Hid (t = S ((repHead W ++ W.hub.book.chans.flatMap cnLine) ++ (W.hub.book.htlcs.take k).flatMap htLine)) ∧ t.size ≤ 209715300 + 200 * k ∧ Below w2.heap.size w2 wr) (fun _ _ i _ => yn - (intOf i).toNat)
        case atStart => exact ⟨0, t, Nat.zero_le _, rfl, rfl, by unfold Hid; rw [ht.out]; simp, by omega, hB⟩
        case round =>
          obtain ⟨k, t, hk, rfl, rfl, ht, hts, hB⟩ := hrel
          have hnb : yn ≤ 1048576 := by have := hB1.out.2.1; have := Ly.out; omega
          have BWr := below_via hB Bw
          by_cases hlt : k < yn
          · obtain ⟨g, off, x0, x1, x2, x3, x4, x5, x6, e0, hg, c0, c1, c2, c3, c4, c5, c6, o0, o1, o2, o3, o4, o5, o6, hx, hxt⟩ := HtS.cells (FS.keep hys BWr) hlt
            have ft := Lib.hid (flat_step (f := htLine) hxt.out)
            subst e0
            clear hxt hx
            go_wp2_with fail
            refine (withNumbers_all ⟨#[104, 116, 108, 99]⟩ _ 5 5 [x0, x1, x2, x3, x4] _ (IS.lit _ [x0, x1, x2, x3, x4] #[.int .i64 x0, .int .i64 x1, .int .i64 x2, .int .i64 x3, .int .i64 x4] 3 rfl (by intro a ha; simp only [List.mem_cons, List.not_mem_nil, or_false] at ha; rcases ha with rfl | rfl | rfl | rfl | rfl; all_goals assumption) (by simp) 5 rfl _ (by first | rfl | exact Z1 | simp)) (T.pow.keep (by (repeat (first | (with_reducible exact Below.refl _ _) | (with_reducible assumption) | (with_reducible refine Below.setCell ?_ ?side _; case side => first | (with_reducible exact Nat.le_refl _) | (simp; done) | (simp only [World.size_alloc, World.size_setCell, World.size_drew, World.heap_drewN] at *; omega)) | (with_reducible refine below_alloc ?_ _) | (with_reducible refine Below.drew ?_) | (with_reducible refine below_drewN ?_) | (with_reducible refine below_via (by assumption) ?_))))) (by decide) (by decide)).mono ?_
            rintro e w3 ⟨he, hb⟩
            obtain ⟨Z, hZ⟩ : ∃ Z, Z = S ((ByteArray.data ⟨#[104, 116, 108, 99]⟩).toList ++ tailN [x0, x1, x2, x3, x4]) := ⟨_, rfl⟩
            rw [← hZ] at he
            subst he
            have hZs : Z.size ≤ 120 := by rw [hZ, S_size, List.length_append]; have := tailN_len [x0, x1, x2, x3, x4]; simp at this ⊢; omega
            have hZ1 : (Z ++ (⟨#[10]⟩ : ByteArray)).size ≤ 121 := by rw [ByteArray.size_append]; show Z.size + 1 ≤ _; omega
            have hZ2 : (t ++ (Z ++ (⟨#[10]⟩ : ByteArray))).size ≤ 209715300 + 200 * (k + 1) := by rw [ByteArray.size_append]; omega
            have hst : Hid (t ++ (Z ++ (⟨#[10]⟩ : ByteArray)) = S ((repHead W ++ W.hub.book.chans.flatMap cnLine) ++ (W.hub.book.htlcs.take (k + 1)).flatMap htLine)) := by
              unfold Hid
              rw [ft.out]
              exact str_step ht.out (by rw [hZ, show (⟨#[10]⟩ : ByteArray) = S [10] from rfl, S_append]; rfl)
            clear hZ
            have B3 : Below w2.heap.size w2 w3 := below_via hb (by (repeat (first | (with_reducible exact Below.refl _ _) | (with_reducible assumption) | (with_reducible refine Below.setCell ?_ ?side _; case side => first | (with_reducible exact Nat.le_refl _) | (simp; done) | (simp only [World.size_alloc, World.size_setCell, World.size_drew, World.heap_drewN] at *; omega)) | (with_reducible refine below_alloc ?_ _) | (with_reducible refine Below.drew ?_) | (with_reducible refine below_drewN ?_) | (with_reducible refine below_via (by assumption) ?_))))
            clear hb
            go_wp2
            go_roundw
            case rel => exact ⟨k + 1, _, by omega, by go_num, rfl, hst, hZ2, B3⟩
            case measure => simp [intOf]; omega
          · rw [List.take_of_length_le (by have := Ly.out; omega)] at ht
            have f5' := cell_keep hB f5
            go_wp2
            go_loopw [4, 11, 91] (fun o _ i wr => ∃ (k : Nat) (t : ByteArray), k ≤ zn ∧ i = .int .i64 k ∧ o = .string t ∧ Hid (t = S (((repHead W ++ W.hub.book.chans.flatMap cnLine) ++ W.hub.book.htlcs.flatMap htLine) ++ (W.hub.book.circles.take k).flatMap ciLine)) ∧ t.size ≤ 419430500 + 200 * k ∧ Below w2.heap.size w2 wr) (fun _ _ i _ => zn - (intOf i).toNat)
            case atStart => exact ⟨0, t, Nat.zero_le _, rfl, rfl, by unfold Hid; rw [ht.out]; simp, by omega, hB⟩
            case round =>
              obtain ⟨k, t, hk, rfl, rfl, ht, hts, hB⟩ := hrel
              have hnb : zn ≤ 1048576 := by have := hB1.out.2.2; have := Lz.out; omega
              have BWr := below_via hB Bw
              by_cases hlt : k < zn
              · obtain ⟨g, off, x0, x1, x2, x3, x4, e0, hg, c0, c1, c2, c3, c4, o0, o1, o2, o3, o4, hx, hxt⟩ := CiS.cells (FS.keep hzs BWr) hlt
                have ft := Lib.hid (flat_step (f := ciLine) hxt.out)
                subst e0
                clear hxt hx
                go_wp2_with fail
                refine (withNumbers_all ⟨#[99, 105, 114, 99, 108, 101]⟩ _ 5 5 [x0, x1, x2, x3, x4] _ (IS.lit _ [x0, x1, x2, x3, x4] #[.int .i64 x0, .int .i64 x1, .int .i64 x2, .int .i64 x3, .int .i64 x4] 3 rfl (by intro a ha; simp only [List.mem_cons, List.not_mem_nil, or_false] at ha; rcases ha with rfl | rfl | rfl | rfl | rfl; all_goals assumption) (by simp) 5 rfl _ (by first | rfl | exact Z1 | simp)) (T.pow.keep (by (repeat (first | (with_reducible exact Below.refl _ _) | (with_reducible assumption) | (with_reducible refine Below.setCell ?_ ?side _; case side => first | (with_reducible exact Nat.le_refl _) | (simp; done) | (simp only [World.size_alloc, World.size_setCell, World.size_drew, World.heap_drewN] at *; omega)) | (with_reducible refine below_alloc ?_ _) | (with_reducible refine Below.drew ?_) | (with_reducible refine below_drewN ?_) | (with_reducible refine below_via (by assumption) ?_))))) (by decide) (by decide)).mono ?_
                rintro e w3 ⟨he, hb⟩
                obtain ⟨Z, hZ⟩ : ∃ Z, Z = S ((ByteArray.data ⟨#[99, 105, 114, 99, 108, 101]⟩).toList ++ tailN [x0, x1, x2, x3, x4]) := ⟨_, rfl⟩
                rw [← hZ] at he
                subst he
                have hZs : Z.size ≤ 120 := by rw [hZ, S_size, List.length_append]; have := tailN_len [x0, x1, x2, x3, x4]; simp at this ⊢; omega
                have hZ1 : (Z ++ (⟨#[10]⟩ : ByteArray)).size ≤ 121 := by rw [ByteArray.size_append]; show Z.size + 1 ≤ _; omega
                have hZ2 : (t ++ (Z ++ (⟨#[10]⟩ : ByteArray))).size ≤ 419430500 + 200 * (k + 1) := by rw [ByteArray.size_append]; omega
                have hst : Hid (t ++ (Z ++ (⟨#[10]⟩ : ByteArray)) = S (((repHead W ++ W.hub.book.chans.flatMap cnLine) ++ W.hub.book.htlcs.flatMap htLine) ++ (W.hub.book.circles.take (k + 1)).flatMap ciLine)) := by
                  unfold Hid
                  rw [ft.out]
                  exact str_step ht.out (by rw [hZ, show (⟨#[10]⟩ : ByteArray) = S [10] from rfl, S_append]; rfl)
                clear hZ
                have B3 : Below w2.heap.size w2 w3 := below_via hb (by (repeat (first | (with_reducible exact Below.refl _ _) | (with_reducible assumption) | (with_reducible refine Below.setCell ?_ ?side _; case side => first | (with_reducible exact Nat.le_refl _) | (simp; done) | (simp only [World.size_alloc, World.size_setCell, World.size_drew, World.heap_drewN] at *; omega)) | (with_reducible refine below_alloc ?_ _) | (with_reducible refine Below.drew ?_) | (with_reducible refine below_drewN ?_) | (with_reducible refine below_via (by assumption) ?_))))
                clear hb
                go_wp2
                go_roundw
                case rel => exact ⟨k + 1, _, by omega, by go_num, rfl, hst, hZ2, B3⟩
                case measure => simp [intOf]; omega
              · rw [List.take_of_length_le (by have := Lz.out; omega)] at ht
                have f12' := cell_keep hB f12
                go_wp2
                go_loopw [4, 13, 116] (fun o _ i wr => ∃ (k : Nat) (t : ByteArray), k ≤ ln ∧ i = .int .i64 k ∧ o = .string t ∧ Hid (t = S ((((repHead W ++ W.hub.book.chans.flatMap cnLine) ++ W.hub.book.htlcs.flatMap htLine) ++ W.hub.book.circles.flatMap ciLine) ++ (W.hub.ledger.lines.take k).flatMap lnLine)) ∧ t.size ≤ 629145700 + 200 * k ∧ Below w2.heap.size w2 wr) (fun _ _ i _ => ln - (intOf i).toNat)
                case atStart => exact ⟨0, t, Nat.zero_le _, rfl, rfl, by unfold Hid; rw [ht.out]; simp, by omega, hB⟩
                case round =>
                  obtain ⟨k, t, hk, rfl, rfl, ht, hts, hB⟩ := hrel
                  have hnb : ln ≤ 1048576 := by have := (show W.hub.ledger.lines.length ≤ 1048576 from hB2.out); have := Ll.out; omega
                  have BWr := below_via hB Bw
                  by_cases hlt : k < ln
                  · obtain ⟨g, off, x0, x1, x2, e0, hg, c0, c1, c2, o0, o1, o2, hx, hxt⟩ := LnS.cells (FS.keep hls BWr) hlt
                    have ft := Lib.hid (flat_step (f := lnLine) hxt.out)
                    subst e0
                    clear hxt hx
                    have hAs : (S (accText x0 x1)).size ≤ 1048576 := by rw [S_size]; have := accText_len x0 x1; omega
                    go_wp2_with fail
                    go_region_with (first
                      | (go_at_call 30; refine (accText_impl x0 x1 o1 _ (T.keep (by (repeat (first | (with_reducible exact Below.refl _ _) | (with_reducible assumption) | (with_reducible refine Below.setCell ?_ ?side _; case side => first | (with_reducible exact Nat.le_refl _) | (simp; done) | (simp only [World.size_alloc, World.size_setCell, World.size_drew, World.heap_drewN] at *; omega)) | (with_reducible refine below_alloc ?_ _) | (with_reducible refine Below.drew ?_) | (with_reducible refine below_drewN ?_) | (with_reducible refine below_via (by assumption) ?_)))))).mono ?_; rintro e w4 ⟨rfl, hb4⟩; have B4 : Below w2.heap.size w2 w4 := below_via hb4 (by (repeat (first | (with_reducible exact Below.refl _ _) | (with_reducible assumption) | (with_reducible refine Below.setCell ?_ ?side _; case side => first | (with_reducible exact Nat.le_refl _) | (simp; done) | (simp only [World.size_alloc, World.size_setCell, World.size_drew, World.heap_drewN] at *; omega)) | (with_reducible refine below_alloc ?_ _) | (with_reducible refine Below.drew ?_) | (with_reducible refine below_drewN ?_) | (with_reducible refine below_via (by assumption) ?_)))); have B5 : Below w.heap.size w w4 := below_via B4 Bw; have a2 := cell_keep hb4 (show World.cell? _ ⟨wr.heap.size, 2, none⟩ = some (.int .i64 x2) by simp [go_sem]); (try (have a3 : w4.cell? ⟨wr.heap.size + 1, 0, none⟩ = some (.int .i64 x2) := by ((refine cell_keep hb4 ?_); (simp [go_sem]); done))); clear hb4)
                      | (go_at_call 29; refine (withNumbers_all (S (accText x0 x1)) _ 1 1 [x2] _ (IS.cell1 (by first | exact a3 | simp [go_sem]) o2) (T.pow.keep (by (repeat (first | (with_reducible exact Below.refl _ _) | (with_reducible assumption) | (with_reducible refine Below.setCell ?_ ?side _; case side => first | (with_reducible exact Nat.le_refl _) | (simp; done) | (simp only [World.size_alloc, World.size_setCell, World.size_drew, World.heap_drewN] at *; omega)) | (with_reducible refine below_alloc ?_ _) | (with_reducible refine Below.drew ?_) | (with_reducible refine below_drewN ?_) | (with_reducible refine below_via (by assumption) ?_))))) (by decide) hAs).mono ?_; rintro e w5 ⟨he, hb5⟩; obtain ⟨Z, hZ⟩ : ∃ Z, Z = S ((S (accText x0 x1)).data.toList ++ tailN [x2]) := ⟨_, rfl⟩; rw [← hZ] at he; subst he; have hZs : Z.size ≤ 60 := (by rw [hZ]; exact accZ_len x0 x1 x2); have hZ1 : (Z ++ (⟨#[10]⟩ : ByteArray)).size ≤ 61 := (by rw [ByteArray.size_append]; show Z.size + 1 ≤ _; omega); have hZ2 : (t ++ (Z ++ (⟨#[10]⟩ : ByteArray))).size ≤ 629145700 + 200 * (k + 1) := (by rw [ByteArray.size_append]; omega); have hst : Hid (t ++ (Z ++ (⟨#[10]⟩ : ByteArray)) = S ((((repHead W ++ W.hub.book.chans.flatMap cnLine) ++ W.hub.book.htlcs.flatMap htLine) ++ W.hub.book.circles.flatMap ciLine) ++ (W.hub.ledger.lines.take (k + 1)).flatMap lnLine)) := (by unfold Hid; rw [ft.out]; exact str_step ht.out (by rw [hZ, S_list, show (⟨#[10]⟩ : ByteArray) = S [10] from rfl, S_append] <;> rfl)); clear hZ; have B6 : Below w2.heap.size w2 w5 := below_via hb5 (by (repeat (first | (with_reducible exact Below.refl _ _) | (with_reducible assumption) | (with_reducible refine Below.setCell ?_ ?side _; case side => first | (with_reducible exact Nat.le_refl _) | (simp; done) | (simp only [World.size_alloc, World.size_setCell, World.size_drew, World.heap_drewN] at *; omega)) | (with_reducible refine below_alloc ?_ _) | (with_reducible refine Below.drew ?_) | (with_reducible refine below_drewN ?_) | (with_reducible refine below_via (by assumption) ?_)))); clear hb5))
                    all_goals
                      go_wp2
                      go_roundw
                      case rel => exact ⟨k + 1, _, by omega, by go_num, rfl, hst, hZ2, by (repeat (first | (with_reducible exact Below.refl _ _) | (with_reducible assumption) | (with_reducible refine Below.setCell ?_ ?side _; case side => first | (with_reducible exact Nat.le_refl _) | (simp; done) | (simp only [World.size_alloc, World.size_setCell, World.size_drew, World.heap_drewN] at *; omega)) | (with_reducible refine below_alloc ?_ _) | (with_reducible refine Below.drew ?_) | (with_reducible refine below_drewN ?_) | (with_reducible refine below_via (by assumption) ?_)))⟩
                      case measure => simp [intOf]; omega
                  · rw [List.take_of_length_le (by have := Ll.out; omega)] at ht
                    have hfin := Lib.hid (show t = S (repW W) by rw [ht.out, hr.out])
                    go_wp2
                    go_ret
                    exact ⟨by rw [← hfin.out]; rfl, below_via hB Bw⟩

end Go.Proofs.YtafbdbefmlgioaaGreatDoor
