/- The greatest first: the reference's function walked. -/
import Derived.Test.YtfijgegegfpfkaaSFew4
namespace Go.Proofs.Ytfijgegegfpfkaa
open Go.RowKit Go.Shelf Go.Lib
set_option linter.unusedVariables false
set_option linter.unusedSimpArgs false

set_option maxHeartbeats 1600000 in
theorem splitFew_spec (n : Int) (a : Option Addr) (len cap : Nat) (cs : List Int) (w : World) (hs : IS w w.heap.size a len cs) : Calls Try.prog 5 #[.int .i64 n, .slice a len cap] w fun e w' =>
    (∃ a c, e = .returned (.tuple #[.slice a (splitF n cs).1.length c, .bool (splitF n cs).2]) ∧ OI w' w.heap.size a (splitF n cs).1.length c (splitF n cs).1) ∧ Below w.heap.size w w' := by
  have hl := hs.len
  have Hln := Lib.hid hs.1
  by_cases h : capsOk n cs = true
  · have Hv : Hid (splitF n cs = resB (spB cs n (ordOf (keyOf cs) cs.length))) := if_pos h
    have Hbd := Lib.hid (splitF_bd n cs)
    obtain ⟨hall, hn, h40⟩ := capsOk_t h
    have hnb := amtOk_t hn
    have Hinv := Lib.hid (spB_inv cs n hall hnb)
    have Hall := Lib.hid hall
    have h0 : capsOk0 cs = true := by rw [capsOk_0, hn] at h; simpa using h
    have hlc : len ≤ 40 := by have := Hln.out; omega
    have Holt := Lib.hid (ord_lt (key := keyOf cs) cs.length)
    have hol : (ordOf (keyOf cs) cs.length).length = len := by rw [ord_len]; exact Hln.out
    have Hol := Lib.hid hol
    clear hall h h40 hol
    obtain ⟨i0, hi, hz0, hz1, hz2⟩ := info_parts infoInt
    obtain ⟨i1, hj, hy0, hy1, hy2⟩ := info_parts infoBool
    go_enter Try.func5, Try.ntmps5
    go_wp2_with (first | (go_at_call 17; fail) | (((first | (go_at_call 17; refine (amtOk_spec _ _).mono ?_) | (go_at_call 18; refine (capsOk_spec _ _ _ _ _ (by (first | (with_reducible assumption) | (with_reducible exact OI.is (by assumption)) | (refine IS.keep (by with_reducible assumption) ?_; (repeat (first | (with_reducible assumption) | (with_reducible exact Below.refl _ _) | (with_reducible refine Below.setCell ?_ (by first | (simp; done) | (simp [*]; done)) _) | (with_reducible refine below_alloc ?_ _) | (with_reducible refine Below.drew ?_) | (with_reducible refine below_drewN ?_)))) | (refine OI.is (OI.keep (by with_reducible assumption) ?_); (repeat (first | (with_reducible assumption) | (with_reducible exact Below.refl _ _) | (with_reducible refine Below.setCell ?_ (by first | (simp; done) | (simp [*]; done)) _) | (with_reducible refine below_alloc ?_ _) | (with_reducible refine Below.drew ?_) | (with_reducible refine below_drewN ?_))))))).mono ?_) | (go_at_call 20; refine (l16Min_spec _ _ _).mono ?_)); rintro e w1 ⟨rfl, rfl⟩)) | (at_make; refine wpList_make_full w rfl _ _ _ rfl w.heap.size 3 i0 (.int .i64 0) 1 Try.underlying22 hi hz0 hz1 .i64 .i64 _ _ len rfl rfl rfl rfl ?b2 ?b3 (Nat.le_refl _) ?_))
    case b2 => rw [hz2]; omega
    case b3 => unfold maxLen; omega
    intro w1 hown hgr
    go_wp2_with (at_make; refine wpList_make_full w1 rfl _ _ _ rfl w1.heap.size 4 i1 (.bool false) 1 Try.underlying38 hj hy0 hy1 .i64 .i64 _ _ len rfl rfl rfl rfl ?b2 ?b3 (Nat.le_refl _) ?_)
    case b2 => rw [hy2]; omega
    case b3 => unfold maxLen; omega
    intro w2 hown2 hgr2
    have hB1 : Below w.heap.size w w1 := (Below.refl _ _).grown hgr (Nat.le_refl _) (by simp)
    have hB2 : Below w1.heap.size w1 w2 := (Below.refl _ _).grown hgr2 (Nat.le_refl _) (by simp)
    have hne1 : w.heap.size < w1.heap.size := by
      have := (hown.lt w.heap.size rfl).2
      exact this
    have hA : w2.ownsRow w.heap.size 3 1 (.slice (some ⟨w.heap.size, 0, none⟩) len len) len ((spB cs n ([] : List Nat)).2.map (Value.int .i64)) := by
      rw [toList_madeCells_one] at hown
      have e : (spB cs n ([] : List Nat)).2 = List.replicate len 0 := by simp [spB, Hln.out]
      rw [e]
      have := hown.kept hgr2 (Or.inr (by show some w.heap.size ≠ none; simp))
      simpa using this
    have hT : w2.ownsRow w1.heap.size 4 1 (.slice (some ⟨w1.heap.size, 0, none⟩) len len) len ((tkL (ordOf (keyOf cs) cs.length) len 0).map Value.bool) := by
      rw [toList_madeCells_one] at hown2
      have e : tkL (ordOf (keyOf cs) cs.length) len 0 = List.replicate len false := by
        apply List.ext_getElem
        · simp [tkL]
        · intro i h1 h2
          simp [tkL]
      rw [e]; simpa using hown2
    have HN : Hid (∀ (k j : Nat), (ordOf (keyOf cs) cs.length)[k]? = some j → bestV (keyOf cs) (fun i => decide (i ∈ (ordOf (keyOf cs) cs.length).take k)) len = (j : Int)) := by
      intro k j hkj
      have := best_next hkj
      unfold bestV
      rw [← Hln.out, this]
    have hBB : Below w.heap.size w w2 := hB1.trans (hB2.mono (by omega))
    clear hown hgr hown2 hgr2 hB1 hB2
    generalize ordOf (keyOf cs) cs.length = o at Hv Holt Hol HN hT
    have hne2 : w.heap.size ≠ w1.heap.size := by omega
    have hne3 : w1.heap.size ≠ w.heap.size := by omega
    generalize hBk : w1.heap.size = Bk at hT hne1 hne2 hne3 ⊢
    go_wp2
    go_loopw [0, 25] (fun m i wr => ∃ (k : Nat) (s : Int), k ≤ len ∧ i = .int .i64 k ∧ m = .int .i64 s ∧ Hid (s = (spB cs n (o.take k)).1) ∧ 0 ≤ s ∧ s ≤ 1125899906842624 ∧ wr.ownsRow w.heap.size 3 1 (.slice (some ⟨w.heap.size, 0, none⟩) len len) len ((spB cs n (o.take k)).2.map (Value.int .i64)) ∧ wr.ownsRow Bk 4 1 (.slice (some ⟨Bk, 0, none⟩) len len) len ((tkL o len k).map Value.bool) ∧ Below w.heap.size w wr) (fun _ i _ => len - (intOf i).toNat)
    case atStart => exact ⟨0, n, Nat.zero_le _, rfl, rfl, by simp [spB, Hid], hnb.1, hnb.2, hA, hT, hBB⟩
    case round =>
      obtain ⟨k, s, hk, rfl, rfl, hsv, hs0, hs1, hown, htk, hB⟩ := hrel
      by_cases hlt : k < len
      · obtain ⟨j, hj⟩ : ∃ j, o[k]? = some j := ⟨_, List.getElem?_eq_getElem (by rw [Hol.out]; exact hlt)⟩
        have hjl : j < len := by have := Holt.out j (List.mem_of_getElem? hj); have := Hln.out; omega
        have hBS : BS wr (some ⟨Bk, 0, none⟩) len (fun i => decide (i ∈ o.take k)) := ⟨by unfold maxLen; omega, fun i hi => ⟨Bk, 0, rfl, by
          rw [Nat.zero_add, htk.cellAt i (by omega), List.getElem?_map, tkL_get o len k i hi]; rfl⟩⟩
        have hsr := hs.keep hB
        have hnx := l16Next_spec a len cap cs (some ⟨Bk, 0, none⟩) len (fun i => decide (i ∈ o.take k)) wr hsr hBS
        rw [HN.out k j hj] at hnx
        obtain ⟨b, off, c, rfl, hb, hc, hbd, hx, hxs⟩ := (hs.keepB hB (Nat.le_refl _)).at_ hjl
        have hb1 : b ≠ w.heap.size := by omega
        have hb2 : b ≠ Bk := by omega
        have hcb := allAmt_get Hall.out hx.out
        have hcell := hown.cellAt j (by omega)
        have hlen2 : (spB cs n (o.take k)).2.length = len := by rw [(Hinv.out (o.take k) (fun j hj => Holt.out j (List.mem_of_mem_take hj))).2.1]; exact Hln.out
        obtain ⟨z, hz⟩ : ∃ z, ((spB cs n (o.take k)).2.map (Value.int .i64))[j]? = some z := ⟨_, List.getElem?_eq_getElem (by simp; omega)⟩
        rw [hz] at hcell
        have hfz := hown.frozenAt j
        have htc := htk.cellAt j (by omega)
        rw [List.getElem?_map, tkL_get o len k j hjl] at htc
        have hft := htk.frozenAt j
        have Hstep : Hid (spB cs n (o.take (k + 1)) = stepB cs (spB cs n (o.take k)) j) := by unfold Hid; rw [take_snoc_nat hj, spB_snoc]
        have Hc : Hid (cs.getD j 0 = c) := getD_of hx.out
        have hm0 : 0 ≤ min s c := by omega
        have hm1 : min s c ≤ s := by omega
        have hT2 := htk.stored j (.bool true)
        have hA2 := (hown.kept hT2.2 (Or.inr (by show some w.heap.size ≠ some Bk; simp; omega))).stored j (.int .i64 (min s c))
        have hT3 := hT2.1.kept hA2.2 (Or.inr (by show some Bk ≠ some w.heap.size; simp; omega))
        have hA3 := Lib.hid hA2.1
        have HT3 := Lib.hid hT3
        have Hts := Lib.hid (tkL_set (n := len) hj)
        clear hz hown htk hlen2 hj hx hxs hT2 hA2 hT3 hBS hsr hA hT hBB
        go_wp2_with (first | (go_at_call 19; refine hnx.mono ?_; rintro e w1 ⟨rfl, rfl⟩) | (go_at_call 20; refine (l16Min_spec _ _ _).mono ?_; rintro e w1 ⟨rfl, rfl⟩))
        go_roundw
        case rel =>
          refine ⟨k + 1, s - min s c, by omega, by go_num, rfl, ?_, by omega, by omega, ?_, ?_, (hB.setCell (by show w.heap.size ≤ Bk; omega) _).setCell (Nat.le_refl _) _⟩
          · unfold Hid; rw [Hstep.out, stepB, ← hsv.out, Hc.out]
          · rw [Hstep.out, stepB, ← hsv.out, Hc.out, List.map_set]; exact hA3.out
          · rw [← Hts.out, List.map_set]; exact HT3.out
        case measure => simp [intOf]; omega
      · obtain rfl : k = len := by omega
        have Htk : Hid (o.take k = o) := List.take_of_length_le (by rw [Hol.out]; exact Nat.le_refl _)
        rw [Htk.out] at hown hsv
        have Hown := Lib.hid hown
        have hl2 : (spB cs n o).2.length = k := by rw [(Hinv.out o Holt.out).2.1]; exact Hln.out
        have Hl2 := Lib.hid hl2
        clear hown htk hl2 hA hT
        by_cases hpos : 0 < s
        · have Hr : Hid (splitF n cs = ([], false)) := by unfold Hid; rw [Hv.out]; exact if_pos (by rw [← hsv.out]; exact hpos)
          go_wp2
          go_ret2
          refine ⟨⟨none, 0, by rw [Hr.out]; rfl, ?_⟩, hB⟩
          rw [Hr.out]
          exact ⟨OwnI.nil _ _, rfl, by simp⟩
        · have Hr : Hid (splitF n cs = ((spB cs n o).2, true)) := by unfold Hid; rw [Hv.out]; exact if_neg (by rw [← hsv.out]; exact hpos)
          have hb2 := Hbd.out
          rw [Hr.out] at hb2
          have Hb2 := Lib.hid hb2; clear hb2
          go_wp2
          go_ret2
          refine ⟨⟨some ⟨w.heap.size, 0, none⟩, k, by rw [Hr.out, Hl2.out]; rfl, ?_⟩, hB⟩
          rw [Hr.out]
          refine ⟨?_, rfl, Hb2.out⟩
          unfold OwnI
          dsimp only
          rw [Hl2.out]
          exact Hown.out
  · have Hv : Hid (splitF n cs = ([], false)) := if_neg h
    rw [Hv.out]
    by_cases hn : amtOk n = true
    · have h0 : capsOk0 cs = false := by rw [capsOk_0, hn] at h; simpa using h
      go_enter Try.func5, Try.ntmps5
      go_wp2_with (((first | (go_at_call 17; refine (amtOk_spec _ _).mono ?_) | (go_at_call 18; refine (capsOk_spec _ _ _ _ _ (by (first | (with_reducible assumption) | (with_reducible exact OI.is (by assumption)) | (refine IS.keep (by with_reducible assumption) ?_; (repeat (first | (with_reducible assumption) | (with_reducible exact Below.refl _ _) | (with_reducible refine Below.setCell ?_ (by first | (simp; done) | (simp [*]; done)) _) | (with_reducible refine below_alloc ?_ _) | (with_reducible refine Below.drew ?_) | (with_reducible refine below_drewN ?_)))) | (refine OI.is (OI.keep (by with_reducible assumption) ?_); (repeat (first | (with_reducible assumption) | (with_reducible exact Below.refl _ _) | (with_reducible refine Below.setCell ?_ (by first | (simp; done) | (simp [*]; done)) _) | (with_reducible refine below_alloc ?_ _) | (with_reducible refine Below.drew ?_) | (with_reducible refine below_drewN ?_))))))).mono ?_) | (go_at_call 20; refine (l16Min_spec _ _ _).mono ?_)); rintro e w1 ⟨rfl, rfl⟩))
      go_ret2
      exact ⟨⟨none, 0, rfl, OwnI.nil _ _, rfl, by simp⟩, by (repeat (first | (with_reducible exact Below.refl _ _) | (with_reducible assumption) | (with_reducible refine Below.setCell ?_ ?side _; case side => first | (with_reducible exact Nat.le_refl _) | (simp; done) | (simp only [World.size_alloc, World.size_setCell, World.size_drew, World.heap_drewN] at *; omega)) | (with_reducible refine below_alloc ?_ _) | (with_reducible refine Below.drew ?_) | (with_reducible refine below_drewN ?_) | (with_reducible refine below_via (by assumption) ?_)))⟩
    · go_enter Try.func5, Try.ntmps5
      go_wp2_with (((first | (go_at_call 17; refine (amtOk_spec _ _).mono ?_) | (go_at_call 18; refine (capsOk_spec _ _ _ _ _ (by (first | (with_reducible assumption) | (with_reducible exact OI.is (by assumption)) | (refine IS.keep (by with_reducible assumption) ?_; (repeat (first | (with_reducible assumption) | (with_reducible exact Below.refl _ _) | (with_reducible refine Below.setCell ?_ (by first | (simp; done) | (simp [*]; done)) _) | (with_reducible refine below_alloc ?_ _) | (with_reducible refine Below.drew ?_) | (with_reducible refine below_drewN ?_)))) | (refine OI.is (OI.keep (by with_reducible assumption) ?_); (repeat (first | (with_reducible assumption) | (with_reducible exact Below.refl _ _) | (with_reducible refine Below.setCell ?_ (by first | (simp; done) | (simp [*]; done)) _) | (with_reducible refine below_alloc ?_ _) | (with_reducible refine Below.drew ?_) | (with_reducible refine below_drewN ?_))))))).mono ?_) | (go_at_call 20; refine (l16Min_spec _ _ _).mono ?_)); rintro e w1 ⟨rfl, rfl⟩))
      go_ret2
      exact ⟨⟨none, 0, rfl, OwnI.nil _ _, rfl, by simp⟩, by (repeat (first | (with_reducible exact Below.refl _ _) | (with_reducible assumption) | (with_reducible refine Below.setCell ?_ ?side _; case side => first | (with_reducible exact Nat.le_refl _) | (simp; done) | (simp only [World.size_alloc, World.size_setCell, World.size_drew, World.heap_drewN] at *; omega)) | (with_reducible refine below_alloc ?_ _) | (with_reducible refine Below.drew ?_) | (with_reducible refine below_drewN ?_) | (with_reducible refine below_via (by assumption) ?_)))⟩

end Go.Proofs.Ytfijgegegfpfkaa
