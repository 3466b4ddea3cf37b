/- Bills read. -/
import Derived.Test.YtafbdbefmlgioaaGreatDoorWords
import Derived.Test.YtafbdbefmlgioaaGreatDoorBTextS
import Derived.Deep.RegionHeld3
namespace Go.Proofs.YtafbdbefmlgioaaGreatDoor
open Go.RowKit
set_option linter.unusedVariables false
set_option linter.unusedSimpArgs false

abbrev SS (w : World) (B : Nat) (a : Option Addr) (len : Nat) (xs : List ByteArray) : Prop := FS encS 1 (fun s : ByteArray => s.size ≤ 1048576) w B a len xs
theorem keepI {w w' : World} {B : Nat} {v : Value} {xs : List Int} (h : OwnI w B v xs) (hb : Below w.heap.size w w') : OwnI w' B v xs :=
  World.ownsRow.kept (row := none) h ⟨hb.os, hb.tape, hb.output, hb.size, fun k hk _ => hb.block k hk⟩ (by cases v.ownBlock <;> simp)
theorem tnV_eq (l : List UInt8) : tnV l = .tuple #[.int .i64 ((tnum l).getD 0), .bool (tnum l).isSome] := by
  unfold tnV
  cases tnum l <;> rfl
theorem tnum_bd (l : List UInt8) : -1125899906842624 ≤ (tnum l).getD 0 ∧ (tnum l).getD 0 ≤ 1125899906842624 := by
  cases h : tnum l with
  | none => simp
  | some n =>
    have := inB_t (tnum_elim h).1
    simpa using this
def numsV (xs : List ByteArray) : List Int := xs.map fun s => (tnum s.data.toList).getD 0
def numsOk (xs : List ByteArray) : Bool := xs.all fun s => (tnum s.data.toList).isSome
theorem numsV_snoc (xs : List ByteArray) (x : ByteArray) : numsV (xs ++ [x]) = numsV xs ++ [(tnum x.data.toList).getD 0] := by simp [numsV]
theorem numsOk_snoc {xs : List ByteArray} {x : ByteArray} {n : Int} (h : numsOk xs = true) (hx : tnum x.data.toList = some n) : numsOk (xs ++ [x]) = true := by simp [numsOk] at h ⊢; rw [hx]; exact ⟨h, rfl⟩
theorem numsOk_bad {xs : List ByteArray} {x : ByteArray} {k : Nat} (h : xs[k]? = some x) (hx : tnum x.data.toList = none) : numsOk xs = false := by
  cases h2 : numsOk xs with
  | false => rfl
  | true =>
    have := List.all_eq_true.1 h2 x (List.mem_of_getElem? h)
    rw [hx] at this
    cases this
theorem textNum_yes {n : Int} (s : ByteArray) (hs : s.size ≤ 281474976710656) (w : World) (T : LV w) (h : tnum s.data.toList = some n) : Calls Tryz.prog 88 #[.string s] w fun e w' => e = .returned (.tuple #[.int .i64 n, .bool true]) ∧ Below w.heap.size w w' := by
  have := textNum_impl s hs w T
  rw [tnV_some h] at this
  exact this
theorem textNum_not (s : ByteArray) (hs : s.size ≤ 281474976710656) (w : World) (T : LV w) (h : tnum s.data.toList = none) : Calls Tryz.prog 88 #[.string s] w fun e w' => e = .returned (.tuple #[.int .i64 0, .bool false]) ∧ Below w.heap.size w w' := by
  have := textNum_impl s hs w T
  rw [tnV_none h] at this
  exact this

set_option maxRecDepth 100000 in
set_option maxHeartbeats 3200000 in
theorem numbersOf_impl (a : Option Addr) (len cap : Nat) (xs : List ByteArray) (w : World) (F0 : SS w w.heap.size a len xs) (T0 : LV w) (hlen : len ≤ 1048576) :
    Calls Tryz.prog 50 #[.slice a len cap] w fun e w' => ((numsOk xs = true ∧ ∃ v, e = .returned (.tuple #[v, .bool true]) ∧ OwnI w' w.heap.size v (numsV xs)) ∨ (numsOk xs = false ∧ e = .returned (.tuple #[.slice none 0 0, .bool false]))) ∧ Below w.heap.size w w' := by
  have hl := F0.lenB
  have Hxl := Lib.hid F0.1
  go_enter Tryz.func50, Tryz.ntmps50
  go_wp2
  go_loopw [4, 6, 7, 8, 11] (fun v _ _ _ i wr => ∃ k : Nat, k ≤ len ∧ i = .int .i64 k ∧ OwnI wr w.heap.size v (numsV (xs.take k)) ∧ Hid (numsOk (xs.take k) = true) ∧ Below w.heap.size w wr) (fun _ _ _ _ i _ => len - (intOf i).toNat)
  case atStart => exact ⟨0, Nat.zero_le _, rfl, World.ownsRow_nil _ _ _ _, rfl, Below.refl _ _⟩
  case round =>
    obtain ⟨k, hk, rfl, hown, hin, hB⟩ := hrel
    have hz := hB.size
    have hkl : (numsV (xs.take k)).length ≤ 1099511627776 := by unfold numsV; rw [List.length_map, List.length_take]; omega
    have TK := T0.keep hB
    by_cases hlt : k < len
    · obtain ⟨b, off, x, rfl, hb, hc, hbd, hx, hxs⟩ := (FS.keep F0 hB).at_ hlt
      have hc0 := hc 0 _ rfl
      simp only [Nat.mul_one, Nat.add_zero] at hc0
      have hbd2 : x.size ≤ 1048576 := hbd
      cases ht : tnum x.data.toList with
      | some n =>
        have hn := tnum_bd x.data.toList
        rw [ht] at hn
        have hn2 : -1125899906842624 ≤ n ∧ n ≤ 1125899906842624 := hn
        have hin2 : Hid (numsOk (xs.take (k + 1)) = true) := by unfold Hid; rw [hxs.out]; exact numsOk_snoc hin.out ht
        have hst : Hid (numsV (xs.take (k + 1)) = numsV (xs.take k) ++ [n]) := by unfold Hid; rw [hxs.out, numsV_snoc, ht]; rfl
        clear hn hbd
        go_wp2_with (first | (go_at_call 88; refine (textNum_yes x (by omega) _ TK ht).mono ?_; rintro e w2 ⟨rfl, b2⟩; have hown2 := keepI hown b2; have hB2 := below_via b2 hB; have hz2 := hB2.size; clear ht) | (at_builtin; refine wpList_append_int rfl _ _ rfl w.heap.size _ _ rfl (hown2.alloc _) _ _ rfl (new_cell0 _ _ _) hkl (Nat.le_trans hz2 (size_alloc_le _ _)) ?_))
        intro v' w4 hown4 hb4
        go_wp2
        go_roundw
        case rel => exact ⟨k + 1, by omega, by go_num, by rw [hst.out]; exact hown4, hin2, (below_alloc hB2 _).trans hb4⟩
        case measure => simp [intOf]; omega
      | none =>
        have hr := Lib.hid (numsOk_bad hx.out ht)
        go_wp2_with (go_at_call 88; refine (textNum_not x (by omega) _ TK ht).mono ?_; rintro e w2 ⟨rfl, b2⟩; have hB2 := below_via b2 hB; clear ht)
        go_ret2
        exact ⟨.inr ⟨hr.out, rfl⟩, hB2⟩
    · have hall := FS.all F0 (k := k) (by omega)
      rw [hall] at hown hin
      go_wp2
      go_ret2
      exact ⟨.inl ⟨hin.out, _, rfl, hown⟩, hB⟩

theorem IS.cell {w : World} {B b off len : Nat} {xs : List Int} (h : IS w B (some ⟨b, off, none⟩) len xs) (i : Nat) (x : Int) (hx : xs[i]? = some x) : w.cell? ⟨b, off + i, none⟩ = some (.int .i64 x) := by
  obtain ⟨b', off', e, hlt, hc⟩ := h.2.2.2 i x hx
  injection e with e
  injection e with e1 e2
  subst e1
  subst e2
  exact hc
theorem SS.sub {w : World} {B b off len i n : Nat} {xs : List ByteArray} (h : SS w B (some ⟨b, off, none⟩) len xs) (hi : i + n ≤ len) : SS w B (some ⟨b, off + i, none⟩) n ((xs.drop i).take n) := by
  obtain ⟨h1, h2, h3, h4⟩ := h
  refine ⟨by rw [List.length_take, List.length_drop]; omega, by omega, fun x hx => h3 x (List.mem_of_mem_drop (List.mem_of_mem_take hx)), fun k x hk => ?_⟩
  have hk2 : k < n := by
    have := (List.getElem?_eq_some_iff.1 hk).1
    rw [List.length_take] at this
    omega
  rw [List.getElem?_take_of_lt hk2, List.getElem?_drop] at hk
  obtain ⟨b', off', e, hlt, hc⟩ := h4 (i + k) x hk
  injection e with e
  injection e with e1 e2
  subst e1
  subst e2
  refine ⟨b, off + i, rfl, hlt, fun j v hv => ?_⟩
  have := hc j v hv
  rw [show off + i + k * 1 + j = off + (i + k) * 1 + j by omega]
  exact this
theorem listOf8 {α : Type} {l : List α} (h : l.length = 8) : ∃ x0 x1 x2 x3 x4 x5 x6 x7, l = [x0, x1, x2, x3, x4, x5, x6, x7] := by
  match l, h with
  | [x0, x1, x2, x3, x4, x5, x6, x7], _ => exact ⟨x0, x1, x2, x3, x4, x5, x6, x7, rfl⟩
theorem own_made (w : World) (B : Nat) (hb : B ≤ w.heap.size) : OwnI (w.alloc (.cells #[] 3)) B (.slice (some ⟨w.heap.size, 0, none⟩) 0 0) [] := World.ownsRow_made w #[] 0 hb (by simp [maxLen]) (by simp)
def noteOf (l : List UInt8) : ByteArray := if l = [45] then ⟨#[]⟩ else S l
def tbBad : Value := .tuple #[.agg #[.int .i64 0, .int .i64 0, .int .i64 0, .int .i64 0, .int .i64 0, .string ⟨#[]⟩], .bool false]
def tg (l : List UInt8) : Int := (tnum l).getD 0
def tbOk (l w1 w2 w3 w4 w5 w6 : List UInt8) : Bool := ((tnum w1).isSome && (tnum w2).isSome && (tnum w3).isSome && (tnum w4).isSome && (tnum w5).isSome) && decide (bText (tg w1) (tg w2) (tg w3) (tg w4) (tg w5) (noteOf w6) = l)
def tbV (l : List UInt8) : Value :=
  match words l with
  | [_, w1, w2, w3, w4, w5, w6, _] => if tbOk l w1 w2 w3 w4 w5 w6 = true then .tuple #[.agg #[.int .i64 (tg w1), .int .i64 (tg w2), .int .i64 (tg w3), .int .i64 (tg w4), .int .i64 (tg w5), .string (noteOf w6)], .bool true] else tbBad
  | _ => tbBad
theorem tbV_len {l : List UInt8} (h : (words l).length ≠ 8) : tbV l = tbBad := by
  unfold tbV
  split
  · rename_i e; rw [e] at h; exact absurd rfl h
  · rfl
theorem tbV_eq {l w0 w1 w2 w3 w4 w5 w6 w7 : List UInt8} (h : words l = [w0, w1, w2, w3, w4, w5, w6, w7]) : tbV l = if tbOk l w1 w2 w3 w4 w5 w6 = true then .tuple #[.agg #[.int .i64 (tg w1), .int .i64 (tg w2), .int .i64 (tg w3), .int .i64 (tg w4), .int .i64 (tg w5), .string (noteOf w6)], .bool true] else tbBad := by
  unfold tbV
  rw [h]
theorem words_w {a r : List UInt8} (h : (32 : UInt8) ∉ a) : words (a ++ 32 :: r) = a :: words r := words_word a [] r h
theorem digs_no {x : Int} : (32 : UInt8) ∉ digs x := by
  intro h
  obtain ⟨k, hk⟩ := List.getElem?_of_mem h
  obtain ⟨d, hd⟩ := Lib.digit_of_decFrom _ _ _ (decFrom_dec x.toNat) k 32 hk
  cases hd
theorem digs_some {x : Int} (h : 0 ≤ x ∧ x ≤ 1125899906842624) : (tnum (digs x)).isSome = true := by
  obtain ⟨u, rfl⟩ : ∃ u : Nat, x = (u : Int) := ⟨x.toNat, by omega⟩
  have e : digs (u : Int) = ntext (u : Int) := by rw [ntext_nn (by omega)]; rfl
  rw [e, tnum_ntext (show inB _ _ _ = true from decide_eq_true (by omega))]
  rfl
theorem bText_words {i p a m d : Int} {s : ByteArray} (h : billOk i p a m d s = true) : ∃ r, words (bText i p a m d s) = bHead :: digs i :: digs p :: digs a :: digs m :: digs d :: r := by
  have hh : (32 : UInt8) ∉ bHead := by decide
  have e : bText i p a m d s = bHead ++ 32 :: (digs i ++ 32 :: (digs p ++ 32 :: (digs a ++ 32 :: (digs m ++ 32 :: (digs d ++ 32 :: (noteB s ++ ([32] ++ digs (chk (bBody i p a m d s))))))))) := by
    unfold bText
    rw [if_pos h]
    conv => lhs; arg 1; unfold bBody tailT
    simp [Lib.joinTail]
  refine ⟨words (noteB s ++ ([32] ++ digs (chk (bBody i p a m d s)))), ?_⟩
  rw [e, words_w hh, words_w digs_no, words_w digs_no, words_w digs_no, words_w digs_no, words_w digs_no]
/-- a text that is its bill's own text holds five numbers -/
theorem bill_all {l w0 w1 w2 w3 w4 w5 w6 w7 : List UInt8} (hw : words l = [w0, w1, w2, w3, w4, w5, w6, w7]) (h : bText (tg w1) (tg w2) (tg w3) (tg w4) (tg w5) (noteOf w6) = l) : tbOk l w1 w2 w3 w4 w5 w6 = true := by
  cases hb : billOk (tg w1) (tg w2) (tg w3) (tg w4) (tg w5) (noteOf w6) with
  | false =>
    have h0 : bText (tg w1) (tg w2) (tg w3) (tg w4) (tg w5) (noteOf w6) = [] := by unfold bText; rw [hb]; rfl
    rw [h0] at h
    subst h
    cases hw
  | true =>
    obtain ⟨r, hr⟩ := bText_words hb
    have hin := bill_in hb
    rw [h, hw] at hr
    simp only [List.cons.injEq] at hr
    obtain ⟨-, e1, e2, e3, e4, e5, -⟩ := hr
    unfold tbOk
    rw [decide_eq_true h]
    have k : ∀ x ∈ [tg w1, tg w2, tg w3, tg w4, tg w5], (tnum (digs x)).isSome = true := fun x hx => digs_some (hin x hx)
    have k1 := k _ (by simp : tg w1 ∈ _)
    have k2 := k _ (by simp : tg w2 ∈ _)
    have k3 := k _ (by simp : tg w3 ∈ _)
    have k4 := k _ (by simp : tg w4 ∈ _)
    have k5 := k _ (by simp : tg w5 ∈ _)
    rw [← e1] at k1
    rw [← e2] at k2
    rw [← e3] at k3
    rw [← e4] at k4
    rw [← e5] at k5
    rw [k1, k2, k3, k4, k5]
    rfl
theorem tbOk_eq {l w0 w1 w2 w3 w4 w5 w6 w7 : List UInt8} (hw : words l = [w0, w1, w2, w3, w4, w5, w6, w7]) : tbOk l w1 w2 w3 w4 w5 w6 = decide (bText (tg w1) (tg w2) (tg w3) (tg w4) (tg w5) (noteOf w6) = l) := by
  by_cases h : bText (tg w1) (tg w2) (tg w3) (tg w4) (tg w5) (noteOf w6) = l
  · rw [bill_all hw h, decide_eq_true h]
  · unfold tbOk
    rw [decide_eq_false h, Bool.and_false]
theorem noteOf_size {l : List UInt8} {w6 : List UInt8} (hs : l.length ≤ 1048576) (h : w6 ∈ words l) : (noteOf w6).size ≤ 1048576 := by
  have := wordsGo_mem l [] w6 h
  unfold noteOf
  split
  · exact Nat.zero_le _
  · simp only [List.length_nil] at this
    simp [S, ByteArray.size]
    omega

end Go.Proofs.YtafbdbefmlgioaaGreatDoor
