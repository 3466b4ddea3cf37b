/- Small facts that all walks use. -/
import Derived.Test.YtmpbhjgddmpdlaaRows
import Derived.WalkKit
import Derived.WalkSpells
import Derived.WalkLawsBesides
import Derived.IntWalk
import Derived.BigQuiet
import Derived.Deep.QuietTactic
import Derived.Lib.Hide
namespace Go.Proofs.Ytmpbhjgddmpdlaa
open Go.RowKit

theorem ret_int {k : IntKind} {a b : Int} (h : a = b) : Ending.returned (.int k a) = .returned (.int k b) := by rw [h]
theorem val_int {k : IntKind} {a b : Int} (h : a = b) : Value.int k a = .int k b := by rw [h]
theorem ret_bool {a b : Bool} (h : a = b) : Ending.returned (.bool a) = .returned (.bool b) := by rw [h]
theorem byte_bd (b : UInt8) : 0 ≤ (b.toNat : Int) ∧ (b.toNat : Int) ≤ 255 := by have := b.toNat_lt; omega
theorem take_snoc (s : ByteArray) (k : Nat) (h : k < s.size) : s.data.toList.take (k + 1) = s.data.toList.take k ++ [s[k]] := by
  rw [List.take_succ_eq_append_getElem (by simpa using h)]; rfl
theorem take_all (s : ByteArray) (k : Nat) (h : s.size ≤ k) : s.data.toList.take k = s.data.toList :=
  List.take_of_length_le (by simpa using h)
theorem i64_bd {n : Int} (h : (Lit.int .i64 n).wf = true) : -9223372036854775808 ≤ n ∧ n ≤ 9223372036854775807 := by
  simp only [Lit.wf, Bool.and_eq_true, decide_eq_true_eq] at h
  have h1 : IntKind.i64.min = -9223372036854775808 := rfl
  have h2 : IntKind.i64.max = 9223372036854775807 := rfl
  omega
/-- the slice (a, len) holds the integers xs, below block B -/
def IS (w : World) (B : Nat) (a : Option Addr) (len : Nat) (xs : List Int) : Prop :=
  xs.length = len ∧ len ≤ maxLen ∧ (∀ n ∈ xs, -9223372036854775808 ≤ n ∧ n ≤ 9223372036854775807) ∧
  ∀ (i : Nat) (x : Int), xs[i]? = some x → ∃ b off, a = some ⟨b, off, none⟩ ∧ b < B ∧ w.cell? ⟨b, off + i, none⟩ = some (.int .i64 x)
theorem IS.keep {w w' : World} {B B' : Nat} {a : Option Addr} {len : Nat} {xs : List Int} (h : IS w B a len xs) (hb : Below B w w') (hB : B ≤ B') : IS w' B' a len xs :=
  ⟨h.1, h.2.1, h.2.2.1, fun i x hx => by
    obtain ⟨b, off, e, hlt, hc⟩ := h.2.2.2 i x hx
    exact ⟨b, off, e, by omega, (hb.cell (p := ⟨b, off + i, none⟩) hlt).trans hc⟩⟩
theorem IS.at_ {w : World} {B : Nat} {a : Option Addr} {len : Nat} {xs : List Int} (h : IS w B a len xs) {k : Nat} (hk : k < len) :
    ∃ b off x, a = some ⟨b, off, none⟩ ∧ b < B ∧ w.cell? ⟨b, off + k, none⟩ = some (.int .i64 x) ∧ (-9223372036854775808 ≤ x ∧ x ≤ 9223372036854775807) ∧ Hid (xs[k]? = some x) ∧ Hid (xs.take (k + 1) = xs.take k ++ [x]) := by
  have hl : k < xs.length := by have := h.1; omega
  obtain ⟨b, off, e, hlt, hc⟩ := h.2.2.2 k _ (List.getElem?_eq_getElem hl)
  exact ⟨b, off, _, e, hlt, hc, h.2.2.1 _ (List.getElem_mem hl), List.getElem?_eq_getElem hl, List.take_succ_eq_append_getElem hl⟩
theorem IS.all {w : World} {B : Nat} {a : Option Addr} {len : Nat} {xs : List Int} (h : IS w B a len xs) {k : Nat} (hk : len ≤ k) : xs.take k = xs :=
  List.take_of_length_le (by have := h.1; omega)
end Go.Proofs.Ytmpbhjgddmpdlaa
