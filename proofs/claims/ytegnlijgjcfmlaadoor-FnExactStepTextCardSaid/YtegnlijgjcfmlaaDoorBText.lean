/- The text of a bill, walked: the program. -/
import Derived.Test.YtegnlijgjcfmlaaDoorNumI
import Derived.Test.YtegnlijgjcfmlaaDoorBill
import Derived.Test.YtegnlijgjcfmlaaDoorCheck
namespace Go.Proofs.YtegnlijgjcfmlaaDoor
open Go.RowKit
set_option linter.unusedVariables false
set_option linter.unusedSimpArgs false

theorem check_impl' (s : ByteArray) (hs : s.size ≤ 9223372036854775807) (w : World) : Calls Tryd.prog 50 #[.string s] w fun e w' => e = .returned (.int .i64 (chk s.data.toList)) ∧ w = w' := by
  exact check_impl s (by unfold maxLen; omega) w
theorem check_spec' (s : ByteArray) (hs : s.size ≤ 9223372036854775807) (w : World) : Calls Tryd.prog 47 #[.string s] w fun e w' => e = .returned (.int .i64 (chk s.data.toList)) ∧ w = w' := by
  exact check_spec s (by unfold maxLen; omega) w

theorem IS.lit (w : World) (xs : List Int) (cs : Array Value) (t : TypeId) (h : cs.toList = xs.map (Value.int .i64)) (hx : ∀ x ∈ xs, -9223372036854775808 ≤ x ∧ x ≤ 9223372036854775807) (hn : xs.length ≤ 1048576) (n : Nat) (hl : xs.length = n) (g : Nat) (hg : w.heap.size = g) :
    IS (w.alloc (.cells cs t)) (w.alloc (.cells cs t)).heap.size (some ⟨g, 0, none⟩) n xs := by
  subst hl
  subst hg
  refine ⟨rfl, by unfold maxLen; omega, hx, fun i x hi => ⟨w.heap.size, 0, rfl, by simp, ?_⟩⟩
  have := new_cells w cs t h i (.int .i64 x) (by rw [List.getElem?_map, hi]; rfl)
  simpa using this
def noteB (s : ByteArray) : List UInt8 := if s.data.toList.isEmpty then [45] else s.data.toList
def bHead : List UInt8 := [98, 105, 108, 108]
def bBody (i p a m d : Int) (s : ByteArray) : List UInt8 := bHead ++ tailT [i, p, a, m, d] ++ ([32] ++ noteB s)
def bText (i p a m d : Int) (s : ByteArray) : List UInt8 := if billOk i p a m d s = true then bBody i p a m d s ++ ([32] ++ digs (chk (bBody i p a m d s))) else []
theorem bill_in {i p a m d : Int} {s : ByteArray} (h : billOk i p a m d s = true) : ∀ x ∈ [i, p, a, m, d], 0 ≤ x ∧ x ≤ 1125899906842624 := by
  simp only [billOk, keyOk, chanOk, timeOk, inB, Bool.and_eq_true, decide_eq_true_eq] at h
  intro x hx
  simp at hx
  rcases hx with rfl | rfl | rfl | rfl | rfl <;> omega
theorem bBody_len {i p a m d : Int} {s : ByteArray} (h : billOk i p a m d s = true) (_ : True) (hs : s.size ≤ 1048576) : (bBody i p a m d s).length ≤ 2097152 := by
  have h1 := tailT_len _ (bill_in h)
  have h2 : (noteB s).length ≤ 1048576 := by
    unfold noteB
    split
    · simp
    · have : s.data.toList.length = s.size := Array.length_toList
      omega
  unfold bBody bHead
  simp only [List.length_append, List.length_cons, List.length_nil] at h1 ⊢
  omega

set_option maxRecDepth 100000 in
set_option maxHeartbeats 6400000 in
theorem billText_impl (i p a m d : Int) (s : ByteArray) (w : World) (hs : s.size ≤ 1048576) (T0 : Pow w) : Calls Tryd.prog 20 #[.agg #[.int .i64 i, .int .i64 p, .int .i64 a, .int .i64 m, .int .i64 d, .string s]] w fun e w' => e = .returned (.string (S (bText i p a m d s))) ∧ Below w.heap.size w w' := by
  have hs2 : s.size ≤ 9223372036854775807 := by omega
  cases hok : billOk i p a m d s with
  | false =>
    have hr : Hid (bText i p a m d s = []) := by unfold Hid bText; rw [hok]; rfl
    go_enter Tryd.func20, Tryd.ntmps20
    go_wp2_with (go_at_call 48; refine (billOk_impl _ _ _ _ _ _ _ hs2).mono ?_; rintro e w1 ⟨he, b1⟩; rw [hok] at he; subst he)
    go_ret
    exact ⟨by rw [hr.out]; rfl, below_via b1 (by (repeat (first | (with_reducible exact Below.refl _ _) | (with_reducible assumption) | (with_reducible refine Below.setCell ?_ ?side _; case side => first | (with_reducible exact Nat.le_refl _) | (simp; done) | (simp only [World.size_alloc, World.size_setCell, World.size_drew, World.heap_drewN] at *; omega)) | (with_reducible refine below_alloc ?_ _) | (with_reducible refine Below.drew ?_) | (with_reducible refine below_drewN ?_) | (with_reducible refine below_via (by assumption) ?_))))⟩
  | true =>
    have i5 := trivial
    have hin := Lib.hid (bill_in hok)
    obtain ⟨B, hB⟩ : ∃ B, B = S (bBody i p a m d s) := ⟨_, rfl⟩
    have HB := Lib.hid hB
    clear hB
    have hbs : B.size ≤ 2097152 := by rw [HB.out]; simp only [S, ByteArray.size, List.size_toArray]; exact bBody_len hok i5 hs
    have hchk := chk_bd B.data.toList
    obtain ⟨c, hc⟩ : ∃ c : Nat, chk B.data.toList = (c : Int) := ⟨(chk B.data.toList).toNat, by omega⟩
    have hcd := dec_len c (by omega)
    have hcs : (S (Lib.decDigits c)).size ≤ 20 := by have := hcd.2; simpa [S, ByteArray.size] using this
    have hB32 : (B ++ { data := #[32] } : ByteArray).size ≤ 2097153 := by rw [ByteArray.size_append]; show B.size + 1 ≤ _; omega
    have hfin : Hid (B ++ { data := #[32] } ++ S (Lib.decDigits c) = S (bText i p a m d s)) := by
      unfold Hid bText
      rw [if_pos hok]
      have h1 : chk (bBody i p a m d s) = (c : Int) := by rw [← hc, HB.out]
      rw [HB.out, h1, show ({ data := #[32] } : ByteArray) = S [32] from rfl, S_append, S_append, List.append_assoc]
      rfl
    have hcb : c ≤ 9972 := by omega
    have Hc := Lib.hid hc
    clear hc hchk hcd
    have hbt : Hid (B = S (bHead ++ tailT [i, p, a, m, d]) ++ { data := #[32] } ++ S (noteB s)) := by unfold Hid; rw [HB.out, show ({ data := #[32] } : ByteArray) = S [32] from rfl, S_append, S_append, List.append_assoc]; rfl
    obtain ⟨H, hH⟩ : ∃ H, H = S (bHead ++ tailT [i, p, a, m, d]) := ⟨_, rfl⟩
    have hHs : H.size ≤ 200 := by rw [hH]; simp only [S, ByteArray.size, List.size_toArray, List.length_append]; have := tailT_len _ hin.out; simp [bHead] at this ⊢; omega
    have hH32 : (H ++ { data := #[32] } : ByteArray).size ≤ 201 := by rw [ByteArray.size_append]; show H.size + 1 ≤ _; omega
    rw [← hH] at hbt
    have HH := Lib.hid hH
    have Hok := Lib.hid hok
    clear hH
    cases hse : s.data.toList.isEmpty with
    | true =>
      have h1 : s.toList.isEmpty = true := by rw [ByteArray.toList_eq]; exact hse
      have hn : Hid (S (noteB s) = { data := #[45] }) := by unfold Hid noteB; rw [hse]; rfl
      have h2 : Hid (H ++ { data := #[32] } ++ { data := #[45] } = B) := by unfold Hid; rw [hbt.out, hn.out]
      have h2' := h2.out
      have h3 : H ++ { data := #[32, 45] } = B := by rw [← h2.out, ByteArray.append_assoc]; rfl
      clear hse
      go_enter Tryd.func20, Tryd.ntmps20
      go_wp2_with (go_at_call 48; refine (billOk_impl _ _ _ _ _ _ _ hs2).mono ?_; rintro e w1 ⟨he, b1⟩; rw [hok] at he; subst he; obtain ⟨hc0, hf0, hs0, hz0⟩ := brules b1)
      have B1 : Below w.heap.size w w1 := below_via b1 (below_alloc (Below.refl _ _) _)
      have T1 := T0.keep (below_alloc B1 (.cells #[.int .i64 i, .int .i64 p, .int .i64 a, .int .i64 m, .int .i64 d] 3))
      refine (withNumbers_impl ⟨#[98, 105, 108, 108]⟩ _ 5 5 [i, p, a, m, d] _ (IS.lit w1 [i, p, a, m, d] _ _ rfl (fun x hx => by have := hin.out x hx; omega) (by simp) 5 rfl _ rfl) T1 hin.out (by omega) (by decide)).mono ?_
      rintro e w2 ⟨he, b2⟩
      rw [show S ((⟨#[98, 105, 108, 108]⟩ : ByteArray).data.toList ++ tailT [i, p, a, m, d]) = H from HH.out.symm] at he
      subst he
      have B2 : Below w.heap.size w w2 := below_via b2 (below_alloc B1 _)
      have T2 := T0.keep B2
      clear hc0 hf0 hs0 hz0
      go_wp2_with fail
      refine (check_impl' B (by omega) _).mono ?_
      rintro e w3 ⟨he, rfl⟩
      rw [Hc.out] at he
      subst he
      go_wp2_with fail
      refine (numText_impl c _ (by omega) T2).mono ?_
      rintro e w4 ⟨rfl, b4⟩
      go_wp2
      go_ret
      exact ⟨by rw [← hfin.out]; rfl, below_via b4 B2⟩
    | false =>
      have h1 : s.toList.isEmpty = false := by rw [ByteArray.toList_eq]; exact hse
      have hn : Hid (S (noteB s) = s) := by unfold Hid noteB; rw [hse]; rfl
      have h2 : Hid (H ++ { data := #[32] } ++ s = B) := by unfold Hid; rw [hbt.out, hn.out]
      have h2' := h2.out
      clear hse
      go_enter Tryd.func20, Tryd.ntmps20
      go_wp2_with (go_at_call 48; refine (billOk_impl _ _ _ _ _ _ _ hs2).mono ?_; rintro e w1 ⟨he, b1⟩; rw [hok] at he; subst he; obtain ⟨hc0, hf0, hs0, hz0⟩ := brules b1)
      have B1 : Below w.heap.size w w1 := below_via b1 (below_alloc (Below.refl _ _) _)
      have T1 := T0.keep (below_alloc B1 (.cells #[.int .i64 i, .int .i64 p, .int .i64 a, .int .i64 m, .int .i64 d] 3))
      refine (withNumbers_impl ⟨#[98, 105, 108, 108]⟩ _ 5 5 [i, p, a, m, d] _ (IS.lit w1 [i, p, a, m, d] _ _ rfl (fun x hx => by have := hin.out x hx; omega) (by simp) 5 rfl _ rfl) T1 hin.out (by omega) (by decide)).mono ?_
      rintro e w2 ⟨he, b2⟩
      rw [show S ((⟨#[98, 105, 108, 108]⟩ : ByteArray).data.toList ++ tailT [i, p, a, m, d]) = H from HH.out.symm] at he
      subst he
      have B2 : Below w.heap.size w w2 := below_via b2 (below_alloc B1 _)
      have T2 := T0.keep B2
      clear hc0 hf0 hs0 hz0
      go_wp2_with fail
      refine (check_impl' B (by omega) _).mono ?_
      rintro e w3 ⟨he, rfl⟩
      rw [Hc.out] at he
      subst he
      go_wp2_with fail
      refine (numText_impl c _ (by omega) T2).mono ?_
      rintro e w4 ⟨rfl, b4⟩
      go_wp2
      go_ret
      exact ⟨by rw [← hfin.out]; rfl, below_via b4 B2⟩

end Go.Proofs.YtegnlijgjcfmlaaDoor
