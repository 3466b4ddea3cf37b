/- Numbers as texts: the program; a word with numbers behind it. -/
import Derived.Test.YtafbdbefmlgioaaGreatDoorRText
import Derived.Lib.LaidTab
import Derived.Lib.SmallJoins
import Derived.Lib.AppendIntMem
namespace Go.Proofs.YtafbdbefmlgioaaGreatDoor
open Go.RowKit
set_option linter.unusedVariables false
set_option linter.unusedSimpArgs false

/-- the table of the powers of ten lies as the program lays it -/
abbrev Pow (w : World) : Prop := Lib.TabIs Tryz.prog w "internal/strconv.uint64pow10" .u64 Lib.pow10Tab
theorem Pow.keep {w w' : World} (h : Pow w) (hb : Below w.heap.size w w') : Pow w' := by
  cases hg : Tryz.prog.globalNamed "internal/strconv.uint64pow10" with
  | some g => exact Go.Joins.tab_stays hg h hb (Nat.le_refl _)
  | none =>
    unfold Pow Lib.TabIs World.var? at h
    rw [hg] at h
    cases h
theorem inB_amt {u : Nat} (hu : u ≤ 1125899906842624) : inB (u : Int) (-1125899906842624) 1125899906842624 = true := decide_eq_true (by omega)

set_option maxHeartbeats 800000 in
theorem numText_impl (u : Nat) (w : World) (hu : u ≤ 1125899906842624) (T : Pow w) : Calls Tryz.prog 66 #[.int .i64 (u : Int)] w fun e w' => e = .returned (.string (S (Lib.decDigits u))) ∧ Below w.heap.size w w' := by
  have h := inB_amt hu
  have hi := Lib.hid (Lib.itoa_nonneg u)
  go_enter Tryz.func66, Tryz.ntmps66
  go_wp2_with (first | (go_at_call 85; refine (in_impl _ _ _ _).mono ?_; rintro e w1 ⟨he, rfl⟩; rw [h] at he; subst he) | (go_at_call 102; refine (Tryz.strconv_Itoa (u : Int) (by omega) (by omega) _ T).mono ?_; rintro e w1 ⟨rfl, k, os, rfl⟩))
  go_ret
  exact ⟨by first | rfl | (rw [hi.out]; rfl), Lib.below_grow _ _ (Nat.le_refl _) k os⟩
theorem dec_len (u : Nat) (h : u ≤ 1125899906842624) : 1 ≤ (Lib.decDigits u).length ∧ (Lib.decDigits u).length ≤ 20 := by
  rw [Lib.decDigits_length]
  exact ⟨Lib.nDigits_pos u, Lib.nDigits_le20 u (by omega)⟩
/-- the numbers behind a word, each behind a blank -/
def tailT (xs : List Int) : List UInt8 := Lib.joinTail [32] (xs.map digs)
theorem tailT_snoc (xs : List Int) (x : Int) : tailT (xs ++ [x]) = tailT xs ++ ([32] ++ digs x) := by unfold tailT; simp [Lib.joinTail]
theorem tailT_len : ∀ (xs : List Int), (∀ x ∈ xs, 0 ≤ x ∧ x ≤ 1125899906842624) → (tailT xs).length ≤ 21 * xs.length
  | [], _ => by simp [tailT, Lib.joinTail]
  | x :: r, h => by
    have hx := h x List.mem_cons_self
    have hd := dec_len x.toNat (by omega)
    have ih := tailT_len r (fun y hy => h y (List.mem_cons_of_mem _ hy))
    have e : tailT (x :: r) = ([32] ++ digs x) ++ tailT r := by simp [tailT, Lib.joinTail]
    rw [e, List.length_append, List.length_append, List.length_cons]
    unfold digs
    simp only [List.length_cons, List.length_nil]
    omega
theorem OwnS.one (w : World) (B : Nat) (hb : B ≤ w.heap.size) (s : ByteArray) : OwnS (w.alloc (.cells #[.string s] 9)) B (.slice (some ⟨w.heap.size, 0, none⟩) 1 1) [s] :=
  ⟨by simp [encS], .inr ⟨w.heap.size, 1, #[.string s], rfl, hb, heap_alloc_new w _, Nat.le_refl _, by simp [maxLen], rfl, by simp [encS]⟩⟩
theorem withN_list (s : ByteArray) (xs : List Int) : ([s] ++ xs.map digS).map (·.data.toList) = s.data.toList :: xs.map digs := by simp [digS, S]

set_option maxRecDepth 100000 in
set_option maxHeartbeats 3200000 in
theorem withNumbers_impl (s : ByteArray) (a : Option Addr) (len cap : Nat) (xs : List Int) (w : World) (S0 : IS w w.heap.size a len xs) (T0 : Pow w) (hx : ∀ x ∈ xs, 0 ≤ x ∧ x ≤ 1125899906842624) (hlen : len ≤ 1048576) (hs : s.size ≤ 1048576) :
    Calls Tryz.prog 29 #[.string s, .slice a len cap] w fun e w' => e = .returned (.string (S (s.data.toList ++ tailT xs))) ∧ Below w.heap.size w w' := by
  have hl := S0.len
  have Hxl := Lib.hid S0.1
  have Hx := Lib.hid hx
  have hst : s.data.toList.length = s.size := Array.length_toList
  have Hst := Lib.hid hst
  clear hx hst
  have O0 := OwnS.one w w.heap.size (Nat.le_refl _) s
  go_enter Tryz.func29, Tryz.ntmps29
  go_wp2
  go_loopw [5, 7, 12] (fun v _ i wr => ∃ k : Nat, k ≤ len ∧ i = .int .i64 k ∧ OwnS wr w.heap.size v ([s] ++ (xs.take k).map digS) ∧ Below w.heap.size w wr) (fun _ _ i _ => len - (intOf i).toNat)
  case atStart => exact ⟨0, Nat.zero_le _, rfl, O0, below_alloc (Below.refl _ _) _⟩
  case round =>
    obtain ⟨k, hk, rfl, hown, hB⟩ := hrel
    have hkl : ([s] ++ (xs.take k).map digS).length ≤ 1099511627775 := by simp [List.length_take]; omega
    by_cases hlt : k < len
    · obtain ⟨b, off, x, rfl, hb, hc, hbd, hx, hxs⟩ := (S0.keep hB).at_ hlt
      have hx2 := Hx.out x (List.mem_of_getElem? hx.out)
      obtain ⟨u, rfl⟩ : ∃ u : Nat, x = (u : Int) := ⟨x.toNat, by omega⟩
      have hu : u ≤ 1125899906842624 := by omega
      have hz := hB.size
      have hst2 : Hid ([s] ++ (xs.take (k + 1)).map digS = ([s] ++ (xs.take k).map digS) ++ [S (Lib.decDigits u)]) := by unfold Hid; rw [hxs.out, List.map_append, ← List.append_assoc]; rfl
      obtain ⟨L, hL⟩ : ∃ L, L = [s] ++ (xs.take k).map digS := ⟨_, rfl⟩
      rw [← hL] at hown hkl
      have HL := Lib.hid hL
      have T1 := T0.keep hB
      clear hbd hL
      go_wp2_with fail
      refine (numText_impl u _ hu T1).mono ?_
      rintro e w2 ⟨rfl, b2⟩
      have hown2 := OwnF.keep hown b2
      have hB2 := below_via b2 hB
      have hz2 := hB2.size
      go_wp2_with (at_builtin; refine wpList_append_f infoString Tryz.underlying109 rfl (by decide) (by decide) lenS oneS rfl _ _ rfl w.heap.size _ L rfl (hown2.alloc _) _ (S (Lib.decDigits u)) rfl (new_cells _ _ _ rfl) hkl (Nat.le_trans hz2 (size_alloc_le _ _)) ?_)
      intro v' w4 hown4 hb4 _
      go_wp2
      go_roundw
      case rel => exact ⟨k + 1, by omega, by go_num, by rw [hst2.out, ← HL.out]; exact hown4, (below_alloc hB2 _).trans hb4⟩
      case measure => simp [intOf]; omega
    · have hall := S0.all (k := k) (by omega)
      rw [hall] at hown
      clear hall hkl
      have hj : Hid (Lib.join (([s] ++ xs.map digS).map (·.data.toList)) [32] = s.data.toList ++ tailT xs) := by unfold Hid tailT; rw [withN_list, Lib.join_cons]
      have hjl : (s.data.toList ++ tailT xs).length ≤ 140737488355328 := by
        rw [List.length_append, Hst.out]
        have := tailT_len xs Hx.out
        have := Hxl.out
        omega
      obtain ⟨L, hL⟩ : ∃ L, L = [s] ++ xs.map digS := ⟨_, rfl⟩
      rw [← hL] at hown hj
      have hLl : L.length ≤ 140737488355328 := by rw [hL]; simp; have := Hxl.out; omega
      clear hL
      go_wp2_with fail
      refine (join_own _ L ⟨#[32]⟩ _ _ hown hLl (by have := hj.out; rw [this]; exact hjl)).mono ?_
      rintro e w2 ⟨rfl, b2⟩
      go_wp2
      go_ret
      exact ⟨by rw [← hj.out]; rfl, below_via b2 hB⟩

end Go.Proofs.YtafbdbefmlgioaaGreatDoor
