/- Splitting an amount. -/
import Derived.Test.YtfijgegegfpfkaaCaps
import Derived.Test.YtfijgegegfpfkaaIntsW
import Derived.Test.YtfijgegegfpfkaaGuess
namespace Go.Proofs.Ytfijgegegfpfkaa
open Go.RowKit
set_option linter.unusedVariables false
set_option linter.unusedSimpArgs false

def stepB (cs : List Int) (s : Int × List Int) (i : Nat) : Int × List Int := (s.1 - min s.1 (cs.getD i 0), s.2.set i (min s.1 (cs.getD i 0)))
def spB (cs : List Int) (n : Int) (idx : List Nat) : Int × List Int := idx.foldl (stepB cs) (n, List.replicate cs.length 0)
def resB (s : Int × List Int) : List Int × Bool := if 0 < s.1 then ([], false) else (s.2, true)
theorem spB_snoc (cs : List Int) (n : Int) (idx : List Nat) (i : Nat) : spB cs n (idx ++ [i]) = stepB cs (spB cs n idx) i := by simp [spB, List.foldl_append]
theorem getD_of {cs : List Int} {i : Nat} {c : Int} (h : cs[i]? = some c) : cs.getD i 0 = c := by simp [List.getD_eq_getElem?_getD, h]
theorem mem_set_bd {l : List Int} {i : Nat} {x lo hi : Int} (h : ∀ y ∈ l, lo ≤ y ∧ y ≤ hi) (hx : lo ≤ x ∧ x ≤ hi) : ∀ y ∈ l.set i x, lo ≤ y ∧ y ≤ hi := by
  intro y hy
  rcases List.mem_or_eq_of_mem_set hy with h1 | h1
  · exact h y h1
  · subst h1; exact hx
theorem spB_inv (cs : List Int) (n : Int) (hc : allAmt cs = true) (hn : 0 ≤ n ∧ n ≤ 1125899906842624) : ∀ (idx : List Nat), (∀ i ∈ idx, i < cs.length) → (0 ≤ (spB cs n idx).1 ∧ (spB cs n idx).1 ≤ 1125899906842624) ∧ (spB cs n idx).2.length = cs.length ∧ ∀ y ∈ (spB cs n idx).2, 0 ≤ y ∧ y ≤ 1125899906842624 := by
  intro idx
  suffices H : ∀ (s : Int × List Int), ((0 ≤ s.1 ∧ s.1 ≤ 1125899906842624) ∧ s.2.length = cs.length ∧ ∀ y ∈ s.2, 0 ≤ y ∧ y ≤ 1125899906842624) → (∀ i ∈ idx, i < cs.length) →
      ((0 ≤ (idx.foldl (stepB cs) s).1 ∧ (idx.foldl (stepB cs) s).1 ≤ 1125899906842624) ∧ (idx.foldl (stepB cs) s).2.length = cs.length ∧ ∀ y ∈ (idx.foldl (stepB cs) s).2, 0 ≤ y ∧ y ≤ 1125899906842624) by
    intro hi
    exact H _ ⟨hn, by simp, fun y hy => by simp at hy; omega⟩ hi
  induction idx with
  | nil => intro s h _; exact h
  | cons i idx ih =>
    intro s h hi
    have hlt := hi i (by simp)
    have hb := allAmt_get hc (List.getElem?_eq_getElem hlt)
    have hg := getD_of (List.getElem?_eq_getElem hlt)
    refine ih _ ⟨?_, ?_, ?_⟩ fun j hj => hi j (by simp [hj])
    · simp only [stepB, hg]; omega
    · simp [stepB, h.2.1]
    · simp only [stepB, hg]
      exact mem_set_bd h.2.2 (by omega)
theorem resB_bd (cs : List Int) (n : Int) (hc : allAmt cs = true) (hn : 0 ≤ n ∧ n ≤ 1125899906842624) (idx : List Nat) (hi : ∀ i ∈ idx, i < cs.length) : ∀ y ∈ (resB (spB cs n idx)).1, -9223372036854775808 ≤ y ∧ y ≤ 9223372036854775807 := by
  intro y hy
  unfold resB at hy
  split at hy
  · simp at hy
  · have := (spB_inv cs n hc hn idx hi).2.2 y hy
    omega

set_option maxHeartbeats 800000 in
theorem upTo_impl (n : Nat) (w : World) (h1 : n ≤ 1048576) : Calls Try.prog 22 #[.int .i64 n] w fun e w' => (∃ a c, e = .returned (.slice a n c) ∧ OI w' w.heap.size a n c ((List.range n).map fun (i : Nat) => (i : Int))) ∧ Below w.heap.size w w' := by
  go_enter Try.func22, Try.ntmps22
  go_wp2
  go_loopw [3, 4, 6] (fun v _ i wr => ∃ k : Nat, k ≤ n ∧ i = .int .i64 k ∧ OwnI wr w.heap.size v ((List.range k).map fun (i : Nat) => (i : Int)) ∧ Below w.heap.size w wr) (fun _ _ i _ => n - (intOf i).toNat)
  case atStart => exact ⟨0, Nat.zero_le _, rfl, OwnI.nil _ _, Below.refl _ _⟩
  case round =>
    obtain ⟨k, hk, rfl, hown, hB⟩ := hrel
    have hlenk : ((List.range k).map fun (i : Nat) => (i : Int)).length ≤ 1099511627776 := by simp; omega
    have e1 : Hid (((List.range (k + 1)).map fun (i : Nat) => (i : Int)) = ((List.range k).map fun (i : Nat) => (i : Int)) ++ [(k : Int)]) := by unfold Hid; simp [List.range_succ]
    by_cases hlt : k < n
    · go_wp2_with (at_builtin; refine wpList_append_int rfl _ _ rfl w.heap.size _ _ rfl (hown.alloc _) _ _ rfl (new_cell0 _ _ _) hlenk (Nat.le_trans hB.size (size_alloc_le _ _)) ?_)
      intro v' w2 hown2 hB2
      go_wp2
      go_roundw
      case rel => exact ⟨k + 1, by omega, by go_num, by rw [e1.out]; exact hown2, (below_alloc hB _).trans hB2⟩
      case measure => simp [intOf]; omega
    · obtain rfl : k = n := by omega
      clear e1 hlenk
      go_wp2
      go_ret
      obtain ⟨a, c, hv, ho⟩ := hown.oi (by intro x hx; simp at hx; obtain ⟨i, hi, rfl⟩ := hx; omega)
      subst hv
      refine ⟨⟨a, c, ?_, ?_⟩, hB⟩
      · simp
      · simpa using ho

theorem take_snoc_nat {idx : List Nat} {k : Nat} {i : Nat} (h : idx[k]? = some i) : idx.take (k + 1) = idx.take k ++ [i] := by
  have hl := (List.getElem?_eq_some_iff.1 h)
  rw [List.take_succ_eq_append_getElem hl.1, hl.2]

set_option maxHeartbeats 1600000 in
theorem splitBy_impl (n : Int) (a : Option Addr) (len cap : Nat) (a' : Option Addr) (len' cap' : Nat) (cs : List Int) (idx : List Nat) (w : World) (hs : IS w w.heap.size a len cs) (hs' : IS w w.heap.size a' len' (idx.map fun (i : Nat) => (i : Int))) (h1 : capsOk n cs = true) (hidx : ∀ i ∈ idx, i < cs.length) :
    Calls Try.prog 25 #[.int .i64 n, .slice a len cap, .slice a' len' cap'] w fun e w' =>
      (∃ a c, e = .returned (.tuple #[.slice a (resB (spB cs n idx)).1.length c, .bool (resB (spB cs n idx)).2]) ∧ OI w' w.heap.size a (resB (spB cs n idx)).1.length c (resB (spB cs n idx)).1) ∧ Below w.heap.size w w' := by
  obtain ⟨hall, hn, h40⟩ := capsOk_t h1
  have Hall := Lib.hid hall
  have hnb := amtOk_t hn
  have Hinv := Lib.hid (spB_inv cs n hall hnb)
  have Hbd := Lib.hid (resB_bd cs n hall hnb idx hidx)
  have Hidx := Lib.hid hidx
  have hlc : len ≤ 40 := by have := hs.1; omega
  have hlo := hs'.len
  have Hln := Lib.hid hs.1
  have hlo2 : idx.length = len' := by have := hs'.1; simpa using this
  have Hlo := Lib.hid hlo2; clear hlo2
  clear hall hn h40 h1 hidx
  obtain ⟨i0, hi, hz0, hz1, hz2⟩ := info_parts infoInt
  go_enter Try.func25, Try.ntmps25
  go_wp2_with (at_make; refine wpList_make_full w rfl _ _ _ rfl w.heap.size 3 i0 (.int .i64 0) 1 Try.underlying22 hi hz0 hz1 .i64 .i64 _ _ len rfl rfl rfl rfl ?b2 ?b3 (Nat.le_refl _) ?_)
  case b2 => rw [hz2]; omega
  case b3 => unfold maxLen; omega
  intro w1 hown hgr
  have hB1 : Below w.heap.size w w1 := (Below.refl _ _).grown hgr (Nat.le_refl _) (by simp)
  have hown1 : w1.ownsRow w.heap.size 3 1 (.slice (some ⟨w.heap.size, 0, none⟩) len len) len ((spB cs n (idx.take 0)).2.map (Value.int .i64)) := by
    rw [toList_madeCells_one] at hown
    have e : (spB cs n (idx.take 0)).2 = List.replicate len 0 := by simp [spB, Hln.out]
    rw [e]; simpa using hown
  clear hown hgr
  go_wp2
  go_loopw [0, 10, 16] (fun m _ i wr => ∃ (k : Nat) (s : Int), k ≤ len' ∧ i = .int .i64 k ∧ m = .int .i64 s ∧ Hid (s = (spB cs n (idx.take k)).1) ∧ 0 ≤ s ∧ s ≤ 1125899906842624 ∧ wr.ownsRow w.heap.size 3 1 (.slice (some ⟨w.heap.size, 0, none⟩) len len) len ((spB cs n (idx.take k)).2.map (Value.int .i64)) ∧ Below w.heap.size w wr) (fun _ _ i _ => len' - (intOf i).toNat)
  case atStart => exact ⟨0, n, Nat.zero_le _, rfl, rfl, by simp [spB, Hid], hnb.1, hnb.2, hown1, hB1⟩
  case round =>
    obtain ⟨k, s, hk, rfl, rfl, hsv, hs0, hs1, hown, hB⟩ := hrel
    by_cases hlt : k < len'
    · obtain ⟨b', off', y, rfl, hb', hc', hbd', hy, hys⟩ := (hs'.keep hB).at_ hlt
      obtain ⟨i, hik, rfl⟩ : ∃ i : Nat, idx[k]? = some i ∧ (i : Int) = y := by
        have := hy.out
        rw [List.getElem?_map] at this
        cases h : idx[k]? with
        | none => rw [h] at this; simp at this
        | some i => rw [h] at this; simp at this; exact ⟨i, rfl, this⟩
      have hil : i < len := by have := Hidx.out i (List.mem_of_getElem? hik); have := Hln.out; omega
      obtain ⟨b, off, c, rfl, hb, hc, hbd, hx, hxs⟩ := (hs.keep hB).at_ hil
      have hcb := allAmt_get Hall.out hx.out
      have hcell := hown.cellAt i (by omega)
      have hlen2 : (spB cs n (idx.take k)).2.length = len := by rw [(Hinv.out (idx.take k) (fun j hj => Hidx.out j (List.mem_of_mem_take hj))).2.1]; exact Hln.out
      obtain ⟨z, hz⟩ : ∃ z, ((spB cs n (idx.take k)).2.map (Value.int .i64))[i]? = some z := ⟨_, List.getElem?_eq_getElem (by simp; omega)⟩
      rw [hz] at hcell
      have hfz := hown.frozenAt i
      have Hstep : Hid (spB cs n (idx.take (k + 1)) = stepB cs (spB cs n (idx.take k)) i) := by unfold Hid; rw [take_snoc_nat hik, spB_snoc]
      have Hc : Hid (cs.getD i 0 = c) := getD_of hx.out
      have Hown := Lib.hid hown
      clear hz hown hlen2 hik hy hys hx hxs hown1 hB1
      have hst := fun u => (Hown.out.stored i u).1
      have Hst := Lib.hid hst; clear hst
      by_cases hmin : s ≤ c
      · go_wp2
        go_roundw
        case rel =>
          refine ⟨k + 1, 0, by omega, by go_num, val_int (by omega), ?_, by omega, by omega, ?_, hB.setCell (Nat.le_refl _) _⟩
          · unfold Hid; rw [Hstep.out, stepB, ← hsv.out, Hc.out]; dsimp only; omega
          · rw [Hstep.out, stepB, ← hsv.out, Hc.out, show min s c = s by omega, List.map_set]; exact Hst.out _
        case measure => simp [intOf]; omega
      · go_wp2
        go_roundw
        case rel =>
          refine ⟨k + 1, s - c, by omega, by go_num, val_int (by omega), ?_, by omega, by omega, ?_, hB.setCell (Nat.le_refl _) _⟩
          · unfold Hid; rw [Hstep.out, stepB, ← hsv.out, Hc.out]; dsimp only; omega
          · rw [Hstep.out, stepB, ← hsv.out, Hc.out, show min s c = c by omega, List.map_set]; exact Hst.out _
        case measure => simp [intOf]; omega
    · have e : k = len' := by omega
      subst e
      have Htk : Hid (idx.take k = idx) := List.take_of_length_le (by have := Hlo.out; omega)
      have hsv2 := hsv.out
      rw [Htk.out] at hsv2 hown
      have Hsv := Lib.hid hsv2
      clear hsv hsv2
      have Hown := Lib.hid hown; clear hown
      by_cases hpos : 0 < s
      · have Hr : Hid (resB (spB cs n idx) = ([], false)) := if_pos (by rw [← Hsv.out]; exact hpos)
        go_wp2
        go_ret2
        refine ⟨⟨none, 0, by rw [Hr.out]; rfl, ?_⟩, hB⟩
        rw [Hr.out]
        exact ⟨OwnI.nil _ _, rfl, by simp⟩
      · have Hr : Hid (resB (spB cs n idx) = ((spB cs n idx).2, true)) := if_neg (by rw [← Hsv.out]; exact hpos)
        go_wp2
        go_ret2
        have hl2 : (spB cs n idx).2.length = len := by rw [(Hinv.out idx Hidx.out).2.1]; exact Hln.out
        refine ⟨⟨some ⟨w.heap.size, 0, none⟩, len, by rw [Hr.out, hl2]; rfl, ?_⟩, hB⟩
        have hb2 := Hbd.out
        rw [Hr.out] at hb2 ⊢
        refine ⟨?_, rfl, hb2⟩
        unfold OwnI
        dsimp only
        rw [hl2]
        exact Hown.out

/-- what splitting in order gives -/
def splitL (n : Int) (cs : List Int) : List Int × Bool := if capsOk n cs = true then resB (spB cs n (List.range cs.length)) else ([], false)
theorem splitL_bd (n : Int) (cs : List Int) : ∀ y ∈ (splitL n cs).1, -9223372036854775808 ≤ y ∧ y ≤ 9223372036854775807 := by
  unfold splitL
  split
  · rename_i h
    obtain ⟨hall, hn, _⟩ := capsOk_t h
    exact resB_bd cs n hall (amtOk_t hn) _ (by simp)
  · simp
theorem splitL_len (n : Int) (cs : List Int) : (splitL n cs).1.length ≤ 40 := by
  unfold splitL
  split
  · rename_i h
    obtain ⟨hall, hn, h40⟩ := capsOk_t h
    unfold resB
    split
    · simp
    · have := (spB_inv cs n hall (amtOk_t hn) (List.range cs.length) (by simp)).2.1
      dsimp only; omega
  · simp

set_option maxHeartbeats 1600000 in
theorem split_impl (n : Int) (a : Option Addr) (len cap : Nat) (cs : List Int) (w : World) (hs : IS w w.heap.size a len cs) : Calls Try.prog 12 #[.int .i64 n, .slice a len cap] w fun e w' =>
    (∃ a c, e = .returned (.tuple #[.slice a (splitL n cs).1.length c, .bool (splitL n cs).2]) ∧ OI w' w.heap.size a (splitL n cs).1.length c (splitL n cs).1) ∧ Below w.heap.size w w' := by
  have hl := hs.len
  have Hln := Lib.hid hs.1
  by_cases h : capsOk n cs = true
  · have Hv : Hid (splitL n cs = resB (spB cs n (List.range cs.length))) := if_pos h
    have h40 := (capsOk_t h).2.2
    have h20 : len ≤ 1048576 := by have := Hln.out; omega
    rw [Hv.out]
    go_enter Try.func12, Try.ntmps12
    go_wp2_with fail
    refine (capsOk_impl _ _ _ _ _ _ hs).mono ?_
    rintro e w1 ⟨rfl, rfl⟩
    go_wp2_with fail
    refine (upTo_impl _ _ h20).mono ?_
    rintro e w1 ⟨⟨a1, c1, rfl, o1⟩, b1⟩
    go_wp2_with fail
    have i1 := o1.is
    rw [show List.range len = List.range cs.length by rw [Hln.out]] at i1
    have hidx : ∀ i ∈ List.range cs.length, i < cs.length := by simp
    refine (splitBy_impl _ _ _ _ _ _ _ cs (List.range cs.length) _ (hs.keep b1) i1 h hidx).mono ?_
    clear hidx
    rintro e w2 ⟨⟨a2, c2, rfl, o2⟩, b2⟩
    go_wp2
    go_ret2
    exact ⟨⟨_, _, rfl, o2.le b1.size⟩, b1.trans (b2.mono b1.size)⟩
  · have Hv : Hid (splitL n cs = ([], false)) := if_neg h
    rw [Hv.out]
    go_enter Try.func12, Try.ntmps12
    go_wp2_with (((first | (go_at_call 21; refine (capsOk_impl _ _ _ _ _ _ (by (first | (with_reducible assumption) | (with_reducible exact OI.is (by assumption)) | (refine IS.keep (by with_reducible assumption) ?_; (repeat (first | (with_reducible assumption) | (with_reducible exact Below.refl _ _) | (with_reducible refine Below.setCell ?_ (by first | (simp; done) | (simp [*]; done)) _) | (with_reducible refine below_alloc ?_ _) | (with_reducible refine Below.drew ?_) | (with_reducible refine below_drewN ?_)))) | (refine OI.is (OI.keep (by with_reducible assumption) ?_); (repeat (first | (with_reducible assumption) | (with_reducible exact Below.refl _ _) | (with_reducible refine Below.setCell ?_ (by first | (simp; done) | (simp [*]; done)) _) | (with_reducible refine below_alloc ?_ _) | (with_reducible refine Below.drew ?_) | (with_reducible refine below_drewN ?_))))))).mono ?_) | (go_at_call 25; refine (splitBy_impl _ _ _ _ _ _ _ _ _ _ (by (first | (with_reducible assumption) | (with_reducible exact OI.is (by assumption)) | (refine IS.keep (by with_reducible assumption) ?_; (repeat (first | (with_reducible assumption) | (with_reducible exact Below.refl _ _) | (with_reducible refine Below.setCell ?_ (by first | (simp; done) | (simp [*]; done)) _) | (with_reducible refine below_alloc ?_ _) | (with_reducible refine Below.drew ?_) | (with_reducible refine below_drewN ?_)))) | (refine OI.is (OI.keep (by with_reducible assumption) ?_); (repeat (first | (with_reducible assumption) | (with_reducible exact Below.refl _ _) | (with_reducible refine Below.setCell ?_ (by first | (simp; done) | (simp [*]; done)) _) | (with_reducible refine below_alloc ?_ _) | (with_reducible refine Below.drew ?_) | (with_reducible refine below_drewN ?_)))))) (by (first | (with_reducible assumption) | (with_reducible exact OI.is (by assumption)) | (refine IS.keep (by with_reducible assumption) ?_; (repeat (first | (with_reducible assumption) | (with_reducible exact Below.refl _ _) | (with_reducible refine Below.setCell ?_ (by first | (simp; done) | (simp [*]; done)) _) | (with_reducible refine below_alloc ?_ _) | (with_reducible refine Below.drew ?_) | (with_reducible refine below_drewN ?_)))) | (refine OI.is (OI.keep (by with_reducible assumption) ?_); (repeat (first | (with_reducible assumption) | (with_reducible exact Below.refl _ _) | (with_reducible refine Below.setCell ?_ (by first | (simp; done) | (simp [*]; done)) _) | (with_reducible refine below_alloc ?_ _) | (with_reducible refine Below.drew ?_) | (with_reducible refine below_drewN ?_)))))) (by assumption) (by assumption) (by assumption)).mono ?_) | (go_at_call 22; refine (upTo_impl _ _ (by omega)).mono ?_)); (first | (rintro e w1 ⟨rfl, rfl⟩) | (rintro e w1 ⟨⟨sa, sc, rfl, hs⟩, hb⟩; (try (replace H0 := below_upd H0 hb (by (repeat (first | (with_reducible assumption) | (with_reducible exact Below.refl _ _) | (with_reducible refine Below.setCell ?_ (by first | (simp; done) | (simp [*]; done)) _) | (with_reducible refine below_alloc ?_ _) | (with_reducible refine Below.drew ?_) | (with_reducible refine below_drewN ?_)))); clear hc0 hf0 hs0 hz0; obtain ⟨hc0, hf0, hs0, hz0⟩ := brules H0)); (try (replace H1 := below_upd H1 hb (by (repeat (first | (with_reducible assumption) | (with_reducible exact Below.refl _ _) | (with_reducible refine Below.setCell ?_ (by first | (simp; done) | (simp [*]; done)) _) | (with_reducible refine below_alloc ?_ _) | (with_reducible refine Below.drew ?_) | (with_reducible refine below_drewN ?_)))); clear hc1 hf1 hs1 hz1; obtain ⟨hc1, hf1, hs1, hz1⟩ := brules H1)); (try (replace H2 := below_upd H2 hb (by (repeat (first | (with_reducible assumption) | (with_reducible exact Below.refl _ _) | (with_reducible refine Below.setCell ?_ (by first | (simp; done) | (simp [*]; done)) _) | (with_reducible refine below_alloc ?_ _) | (with_reducible refine Below.drew ?_) | (with_reducible refine below_drewN ?_)))); clear hc2 hf2 hs2 hz2; obtain ⟨hc2, hf2, hs2, hz2⟩ := brules H2)); (try replace S0 := S0.keep (below_via hb (by (repeat (first | (with_reducible assumption) | (with_reducible exact Below.refl _ _) | (with_reducible refine Below.setCell ?_ (by first | (simp; done) | (simp [*]; done)) _) | (with_reducible refine below_alloc ?_ _) | (with_reducible refine Below.drew ?_) | (with_reducible refine below_drewN ?_)))))); (try replace S1 := S1.keep (below_via hb (by (repeat (first | (with_reducible assumption) | (with_reducible exact Below.refl _ _) | (with_reducible refine Below.setCell ?_ (by first | (simp; done) | (simp [*]; done)) _) | (with_reducible refine below_alloc ?_ _) | (with_reducible refine Below.drew ?_) | (with_reducible refine below_drewN ?_)))))); (try replace S2 := S2.keep (below_via hb (by (repeat (first | (with_reducible assumption) | (with_reducible exact Below.refl _ _) | (with_reducible refine Below.setCell ?_ (by first | (simp; done) | (simp [*]; done)) _) | (with_reducible refine below_alloc ?_ _) | (with_reducible refine Below.drew ?_) | (with_reducible refine below_drewN ?_)))))); (try replace S3 := S3.keep (below_via hb (by (repeat (first | (with_reducible assumption) | (with_reducible exact Below.refl _ _) | (with_reducible refine Below.setCell ?_ (by first | (simp; done) | (simp [*]; done)) _) | (with_reducible refine below_alloc ?_ _) | (with_reducible refine Below.drew ?_) | (with_reducible refine below_drewN ?_)))))); (first | ((fail_if_success (have ht := H0)); have H0 := hb; obtain ⟨hc0, hf0, hs0, hz0⟩ := brules H0) | ((fail_if_success (have ht := H1)); have H1 := hb; obtain ⟨hc1, hf1, hs1, hz1⟩ := brules H1) | ((fail_if_success (have ht := H2)); have H2 := hb; obtain ⟨hc2, hf2, hs2, hz2⟩ := brules H2) | skip); (try (first | ((fail_if_success (have ht := S0)); have S0 := hs; clear hs) | ((fail_if_success (have ht := S1)); have S1 := hs; clear hs) | ((fail_if_success (have ht := S2)); have S2 := hs; clear hs) | ((fail_if_success (have ht := S3)); have S3 := hs; clear hs)))))))
    go_ret2
    exact ⟨⟨none, 0, rfl, OwnI.nil _ _, rfl, by simp⟩, Below.refl _ _⟩

theorem set_take (l : List Int) (k : Nat) (x : Int) (h : k < l.length) : (l.set k x).take (k + 1) = l.take k ++ [x] := by
  rw [List.take_set, List.take_succ_eq_append_getElem h, List.set_append_right k x (by simp; omega)]
  have : k - (l.take k).length = 0 := by simp; omega
  rw [this]; rfl
theorem set_drop (l : List Int) (k : Nat) (x : Int) : (l.set k x).drop (k + 1) = l.drop (k + 1) := by rw [List.drop_set_of_lt (by omega)]
theorem spB_all (cs : List Int) (n : Int) (k : Nat) (hk : k ≤ cs.length) : (spB cs n (List.range k)).2.length = cs.length := by
  induction k with
  | zero => simp [spB]
  | succ k ih => rw [List.range_succ, spB_snoc]; simp [stepB, ih (by omega)]

set_option maxHeartbeats 1600000 in
theorem split_spec (n : Int) (a : Option Addr) (len cap : Nat) (cs : List Int) (w : World) (hs : IS w w.heap.size a len cs) : Calls Try.prog 13 #[.int .i64 n, .slice a len cap] w fun e w' =>
    (∃ a c, e = .returned (.tuple #[.slice a (splitL n cs).1.length c, .bool (splitL n cs).2]) ∧ OI w' w.heap.size a (splitL n cs).1.length c (splitL n cs).1) ∧ Below w.heap.size w w' := by
  have hl := hs.len
  have Hln := Lib.hid hs.1
  by_cases h : capsOk n cs = true
  · have Hv : Hid (splitL n cs = resB (spB cs n (List.range cs.length))) := if_pos h
    have Hbd := Lib.hid (splitL_bd n cs)
    obtain ⟨hall, hn, h40⟩ := capsOk_t h
    have hnb := amtOk_t hn
    have Hinv := Lib.hid (spB_inv cs n hall hnb)
    have Hall := Lib.hid hall
    have h0 : capsOk0 cs = true := by rw [capsOk_0, hn] at h; simpa using h
    have hlc : len ≤ 40 := by have := Hln.out; omega
    clear hall h h40
    go_enter Try.func13, Try.ntmps13
    go_wp2_with (((first | (go_at_call 17; refine (amtOk_spec _ _).mono ?_) | (go_at_call 18; refine (capsOk_spec _ _ _ _ _ (by (first | (with_reducible assumption) | (with_reducible exact OI.is (by assumption)) | (refine IS.keep (by with_reducible assumption) ?_; (repeat (first | (with_reducible assumption) | (with_reducible exact Below.refl _ _) | (with_reducible refine Below.setCell ?_ (by first | (simp; done) | (simp [*]; done)) _) | (with_reducible refine below_alloc ?_ _) | (with_reducible refine Below.drew ?_) | (with_reducible refine below_drewN ?_)))) | (refine OI.is (OI.keep (by with_reducible assumption) ?_); (repeat (first | (with_reducible assumption) | (with_reducible exact Below.refl _ _) | (with_reducible refine Below.setCell ?_ (by first | (simp; done) | (simp [*]; done)) _) | (with_reducible refine below_alloc ?_ _) | (with_reducible refine Below.drew ?_) | (with_reducible refine below_drewN ?_))))))).mono ?_) | (go_at_call 20; refine (l16Min_spec _ _ _).mono ?_)); rintro e w1 ⟨rfl, rfl⟩))
    go_loopw [0, 6, 8, 9, 21] (fun m v _ _ i wr => ∃ (k : Nat) (s : Int), k ≤ len ∧ i = .int .i64 k ∧ m = .int .i64 s ∧ Hid (s = (spB cs n (List.range k)).1) ∧ 0 ≤ s ∧ s ≤ 1125899906842624 ∧ OwnI wr w.heap.size v ((spB cs n (List.range k)).2.take k) ∧ Below w.heap.size w wr) (fun _ _ _ _ i _ => len - (intOf i).toNat)
    case atStart => exact ⟨0, n, Nat.zero_le _, rfl, rfl, by simp [spB, Hid], hnb.1, hnb.2, by simpa using OwnI.made _ _ (Nat.le_refl _), below_alloc (Below.refl _ _) _⟩
    case round =>
      obtain ⟨k, s, hk, rfl, rfl, hsv, hs0, hs1, hown, hB⟩ := hrel
      have Hk : Hid ((spB cs n (List.range k)).2.length = len) := by unfold Hid; rw [spB_all cs n k (by have := Hln.out; omega)]; exact Hln.out
      have hlenk : ((spB cs n (List.range k)).2.take k).length ≤ 1099511627776 := by simp; omega
      by_cases hlt : k < len
      · obtain ⟨b, off, c, rfl, hb, hc, hbd, hx, hxs⟩ := (hs.keep hB).at_ hlt
        have hcb := allAmt_get Hall.out hx.out
        have Hc : Hid (cs.getD k 0 = c) := getD_of hx.out
        have Hstep : Hid (spB cs n (List.range (k + 1)) = stepB cs (spB cs n (List.range k)) k) := by unfold Hid; rw [List.range_succ, spB_snoc]
        have hm0 : 0 ≤ min s c := by omega
        have hm1 : min s c ≤ s := by omega
        go_wp2_with (first | (go_at_call 20; refine (l16Min_spec _ _ _).mono ?_; rintro e w1 ⟨rfl, rfl⟩) | (at_builtin; refine wpList_append_int rfl _ _ rfl w.heap.size _ _ rfl (hown.alloc _) _ _ rfl (new_cell0 _ _ _) hlenk (Nat.le_trans hB.size (size_alloc_le _ _)) ?_))
        intro v' w2 hown2 hB2
        go_wp2
        go_roundw
        case rel =>
          refine ⟨k + 1, s - min s c, by omega, by go_num, rfl, ?_, by omega, by omega, ?_, (below_alloc hB _).trans hB2⟩
          · unfold Hid; rw [Hstep.out, stepB, ← hsv.out, Hc.out]
          · rw [Hstep.out, stepB, ← hsv.out, Hc.out, set_take _ _ _ (by rw [Hk.out]; exact hlt)]; exact hown2
        case measure => simp [intOf]; omega
      · obtain rfl : k = len := by omega
        have Htk : Hid ((spB cs n (List.range k)).2.take k = (spB cs n (List.range k)).2) := List.take_of_length_le (by rw [Hk.out]; exact Nat.le_refl _)
        rw [Htk.out] at hown
        have Hown := Lib.hid hown; clear hown hlenk
        have Hcl : Hid (List.range cs.length = List.range k) := by unfold Hid; rw [Hln.out]
        by_cases hpos : 0 < s
        · have Hr : Hid (splitL n cs = ([], false)) := by unfold Hid; rw [Hv.out, Hcl.out]; exact if_pos (by rw [← hsv.out]; exact hpos)
          go_wp2
          go_ret2
          refine ⟨⟨none, 0, by rw [Hr.out]; rfl, ?_⟩, hB⟩
          rw [Hr.out]
          exact ⟨OwnI.nil _ _, rfl, by simp⟩
        · have Hr : Hid (splitL n cs = ((spB cs n (List.range k)).2, true)) := by unfold Hid; rw [Hv.out, Hcl.out]; exact if_neg (by rw [← hsv.out]; exact hpos)
          have hb2 := Hbd.out
          rw [Hr.out] at hb2
          have Hb2 := Lib.hid hb2; clear hb2
          go_wp2
          go_ret2
          obtain ⟨a, c, hv, ho⟩ := Hown.out.oi Hb2.out
          subst hv
          refine ⟨⟨a, c, by rw [Hr.out]; rfl, ?_⟩, hB⟩
          rw [Hr.out]
          exact ho
  · have Hv : Hid (splitL n cs = ([], false)) := if_neg h
    rw [Hv.out]
    by_cases hn : amtOk n = true
    · have h0 : capsOk0 cs = false := by rw [capsOk_0, hn] at h; simpa using h
      go_enter Try.func13, Try.ntmps13
      go_wp2_with (((first | (go_at_call 17; refine (amtOk_spec _ _).mono ?_) | (go_at_call 18; refine (capsOk_spec _ _ _ _ _ (by (first | (with_reducible assumption) | (with_reducible exact OI.is (by assumption)) | (refine IS.keep (by with_reducible assumption) ?_; (repeat (first | (with_reducible assumption) | (with_reducible exact Below.refl _ _) | (with_reducible refine Below.setCell ?_ (by first | (simp; done) | (simp [*]; done)) _) | (with_reducible refine below_alloc ?_ _) | (with_reducible refine Below.drew ?_) | (with_reducible refine below_drewN ?_)))) | (refine OI.is (OI.keep (by with_reducible assumption) ?_); (repeat (first | (with_reducible assumption) | (with_reducible exact Below.refl _ _) | (with_reducible refine Below.setCell ?_ (by first | (simp; done) | (simp [*]; done)) _) | (with_reducible refine below_alloc ?_ _) | (with_reducible refine Below.drew ?_) | (with_reducible refine below_drewN ?_))))))).mono ?_) | (go_at_call 20; refine (l16Min_spec _ _ _).mono ?_)); rintro e w1 ⟨rfl, rfl⟩))
      go_ret2
      exact ⟨⟨none, 0, rfl, OwnI.nil _ _, rfl, by simp⟩, by (repeat (first | (with_reducible exact Below.refl _ _) | (with_reducible assumption) | (with_reducible refine Below.setCell ?_ ?side _; case side => first | (with_reducible exact Nat.le_refl _) | (simp; done) | (simp only [World.size_alloc, World.size_setCell, World.size_drew, World.heap_drewN] at *; omega)) | (with_reducible refine below_alloc ?_ _) | (with_reducible refine Below.drew ?_) | (with_reducible refine below_drewN ?_) | (with_reducible refine below_via (by assumption) ?_)))⟩
    · go_enter Try.func13, Try.ntmps13
      go_wp2_with (((first | (go_at_call 17; refine (amtOk_spec _ _).mono ?_) | (go_at_call 18; refine (capsOk_spec _ _ _ _ _ (by (first | (with_reducible assumption) | (with_reducible exact OI.is (by assumption)) | (refine IS.keep (by with_reducible assumption) ?_; (repeat (first | (with_reducible assumption) | (with_reducible exact Below.refl _ _) | (with_reducible refine Below.setCell ?_ (by first | (simp; done) | (simp [*]; done)) _) | (with_reducible refine below_alloc ?_ _) | (with_reducible refine Below.drew ?_) | (with_reducible refine below_drewN ?_)))) | (refine OI.is (OI.keep (by with_reducible assumption) ?_); (repeat (first | (with_reducible assumption) | (with_reducible exact Below.refl _ _) | (with_reducible refine Below.setCell ?_ (by first | (simp; done) | (simp [*]; done)) _) | (with_reducible refine below_alloc ?_ _) | (with_reducible refine Below.drew ?_) | (with_reducible refine below_drewN ?_))))))).mono ?_) | (go_at_call 20; refine (l16Min_spec _ _ _).mono ?_)); rintro e w1 ⟨rfl, rfl⟩))
      go_ret2
      exact ⟨⟨none, 0, rfl, OwnI.nil _ _, rfl, by simp⟩, by (repeat (first | (with_reducible exact Below.refl _ _) | (with_reducible assumption) | (with_reducible refine Below.setCell ?_ ?side _; case side => first | (with_reducible exact Nat.le_refl _) | (simp; done) | (simp only [World.size_alloc, World.size_setCell, World.size_drew, World.heap_drewN] at *; omega)) | (with_reducible refine below_alloc ?_ _) | (with_reducible refine Below.drew ?_) | (with_reducible refine below_drewN ?_) | (with_reducible refine below_via (by assumption) ?_)))⟩

end Go.Proofs.Ytfijgegegfpfkaa
