/- The greatest first: the program's function walked. -/
import Derived.Test.YtfijgegegfpfkaaSFew2
namespace Go.Proofs.Ytfijgegegfpfkaa
open Go.RowKit Go.Shelf Go.Lib
set_option linter.unusedVariables false
set_option linter.unusedSimpArgs false
def splitF (n : Int) (cs : List Int) : List Int × Bool := if capsOk n cs = true then resB (spB cs n (ordOf (keyOf cs) cs.length)) else ([], false)
theorem splitF_bd (n : Int) (cs : List Int) : ∀ y ∈ (splitF n cs).1, -9223372036854775808 ≤ y ∧ y ≤ 9223372036854775807 := by
  unfold splitF
  split
  · rename_i h
    obtain ⟨hall, hn, _⟩ := capsOk_t h
    exact resB_bd cs n hall (amtOk_t hn) _ (ord_lt _)
  · simp
theorem splitF_len (n : Int) (cs : List Int) : (splitF n cs).1.length ≤ 40 := by
  unfold splitF
  split
  · rename_i h
    obtain ⟨hall, hn, h40⟩ := capsOk_t h
    unfold resB
    split
    · simp
    · have := (spB_inv cs n hall (amtOk_t hn) _ (ord_lt (key := keyOf cs) cs.length)).2.1
      dsimp only; omega
  · simp

set_option maxHeartbeats 1600000 in
theorem splitFew_impl (n : Int) (a : Option Addr) (len cap : Nat) (cs : List Int) (w : World) (hs : IS w w.heap.size a len cs) : Calls Try.prog 7 #[.int .i64 n, .slice a len cap] w fun e w' =>
    (∃ a c, e = .returned (.tuple #[.slice a (splitF n cs).1.length c, .bool (splitF n cs).2]) ∧ OI w' w.heap.size a (splitF n cs).1.length c (splitF n cs).1) ∧ Below w.heap.size w w' := by
  have hl := hs.len
  obtain rfl : cs.length = len := hs.1
  have hB0 : Below w.heap.size w (w.alloc (.cells #[.slice a cs.length cap] 22)) := (Below.refl _ _).alloc (Nat.le_refl _) _
  have hz0 : (w.alloc (.cells #[.slice a cs.length cap] 22)).heap.size = w.heap.size + 1 := by simp
  have hbc : (w.alloc (.cells #[.slice a cs.length cap] 22)).cell? ⟨w.heap.size, 0, none⟩ = some (.slice a cs.length cap) := by simp
  have hs0 := hs.keep hB0
  by_cases h : capsOk n cs = true
  · have Hv : Hid (splitF n cs = resB (spB cs n (ordOf (keyOf cs) cs.length))) := if_pos h
    have h40 := (capsOk_t h).2.2
    have h20 : cs.length ≤ 1048576 := by omega
    rw [Hv.out]
    go_enter Try.func7, Try.ntmps7
    go_wp2_with fail
    refine (capsOk_impl _ _ _ _ cs _ hs0).mono ?_
    rintro e w1 ⟨rfl, rfl⟩
    go_wp2_with fail
    refine (upTo_impl _ _ h20).mono ?_
    rintro e w2 ⟨⟨a2, c2, rfl, o2⟩, b2⟩
    have z2 := b2.size
    have hc2 := (b2.cell (p := ⟨w.heap.size, 0, none⟩) (by rw [hz0]; exact Nat.lt_succ_self _)).trans hbc
    have hs2 := hs0.keep b2
    have hp := few_order a a2 cap c2 w.heap.size w.heap.size (w.alloc (.cells #[.slice a cs.length cap] 22)).heap.size cs w2 (hs.keepB (hB0.trans (b2.mono (by omega))) (Nat.le_refl _)) (by omega) o2 (by omega) z2 hc2 h40
    go_wp2_with fail
    refine hp.mono ?_
    rintro e w3 ⟨rfl, i3, b3, ho3⟩
    have z3 := b3.size
    have hzz : (w2.alloc (.cells #[.slice a2 cs.length c2] 22)).heap.size = w2.heap.size + 1 := by simp
    have hba : Below w2.heap.size w2 (w2.alloc (.cells #[.slice a2 cs.length c2] 22)) := (Below.refl _ _).alloc (Nat.le_refl _) _
    have hB3 : Below w.heap.size w w3 := ((hB0.trans (b2.mono (by omega))).trans (hba.mono (by omega))).trans (b3.mono (by omega))
    have hc3 := (((hba.mono z2).trans b3).cell (p := ⟨w.heap.size, 0, none⟩) (by rw [hz0]; exact Nat.lt_succ_self _)).trans hc2
    have hs3 := hs.keep hB3
    clear hp hs2 hs0 hbc hc2 o2
    go_wp2_with fail
    refine (splitBy_impl _ _ _ _ _ _ _ cs (ordOf (keyOf cs) cs.length) _ hs3 i3 h (ord_lt _)).mono ?_
    rintro e w4 ⟨⟨a4, c4, rfl, o4⟩, b4⟩
    go_wp2
    go_ret2
    exact ⟨⟨_, _, rfl, o4.le (by omega)⟩, hB3.trans (b4.mono (by omega))⟩
  · have Hv : Hid (splitF n cs = ([], false)) := if_neg h
    rw [Hv.out]
    go_enter Try.func7, Try.ntmps7
    go_wp2_with fail
    refine (capsOk_impl _ _ _ _ cs _ hs0).mono ?_
    rintro e w1 ⟨rfl, rfl⟩
    go_wp2
    go_ret2
    exact ⟨⟨none, 0, rfl, OwnI.nil _ _, rfl, by simp⟩, hB0⟩

end Go.Proofs.Ytfijgegegfpfkaa
