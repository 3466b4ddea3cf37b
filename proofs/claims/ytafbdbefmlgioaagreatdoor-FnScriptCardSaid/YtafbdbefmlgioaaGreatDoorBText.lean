/- The text of a bill, walked: the program. -/
import Derived.Test.YtafbdbefmlgioaaGreatDoorNumI
import Derived.Test.YtafbdbefmlgioaaGreatDoorBill
import Derived.Test.YtafbdbefmlgioaaGreatDoorCheck
namespace Go.Proofs.YtafbdbefmlgioaaGreatDoor
open Go.RowKit
set_option linter.unusedVariables false
set_option linter.unusedSimpArgs false

theorem IS.lit (w : World) (xs : List Int) (cs : Array Value) (t : TypeId) (h : cs.toList = xs.map (Value.int .i64)) (hx : ∀ x ∈ xs, -9223372036854775808 ≤ x ∧ x ≤ 9223372036854775807) (hn : xs.length ≤ 1048576) (n : Nat) (hl : xs.length = n) (g : Nat) (hg : w.heap.size = g) :
    IS (w.alloc (.cells cs t)) (w.alloc (.cells cs t)).heap.size (some ⟨g, 0, none⟩) n xs := by
  subst hl
  subst hg
  refine ⟨rfl, by unfold maxLen; omega, hx, fun i x hi => ⟨w.heap.size, 0, rfl, by simp, ?_⟩⟩
  have := new_cells w cs t h i (.int .i64 x) (by rw [List.getElem?_map, hi]; rfl)
  simpa using this
def noteB (s : ByteArray) : List UInt8 := if s.data.toList.isEmpty then [45] else s.data.toList
def bHead : List UInt8 := [98, 105, 108, 108]
def bBody (i p a m d : Int) (s : ByteArray) : List UInt8 := bHead ++ tailT [i, p, a, m, d] ++ ([32] ++ noteB s)
def bText (i p a m d : Int) (s : ByteArray) : List UInt8 := if billOk i p a m d s = true then bBody i p a m d s ++ ([32] ++ digs (chk (bBody i p a m d s))) else []
theorem bill_in {i p a m d : Int} {s : ByteArray} (h : billOk i p a m d s = true) : ∀ x ∈ [i, p, a, m, d], 0 ≤ x ∧ x ≤ 1125899906842624 := by
  simp only [billOk, keyOk, chanOk, timeOk, inB, Bool.and_eq_true, decide_eq_true_eq] at h
  intro x hx
  simp at hx
  rcases hx with rfl | rfl | rfl | rfl | rfl <;> omega
theorem bBody_len {i p a m d : Int} {s : ByteArray} (h : billOk i p a m d s = true) (_ : True) (hs : s.size ≤ 1048576) : (bBody i p a m d s).length ≤ 2097152 := by
  have h1 := tailT_len _ (bill_in h)
  have h2 : (noteB s).length ≤ 1048576 := by
    unfold noteB
    split
    · simp
    · have : s.data.toList.length = s.size := Array.length_toList
      omega
  unfold bBody bHead
  simp only [List.length_append, List.length_cons, List.length_nil] at h1 ⊢
  omega

end Go.Proofs.YtafbdbefmlgioaaGreatDoor
