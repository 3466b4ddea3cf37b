/- Bills are read as they were written: plain law. -/
import Derived.Test.YtegnlijgjcfmlaaDoorTBill
namespace Go.Proofs.YtegnlijgjcfmlaaDoor
open Go.RowKit
set_option linter.unusedVariables false
set_option linter.unusedSimpArgs false

theorem tg_digs {x : Int} (h : 0 ≤ x ∧ x ≤ 1125899906842624) : tg (digs x) = x := by
  obtain ⟨u, rfl⟩ : ∃ u : Nat, x = (u : Int) := ⟨x.toNat, by omega⟩
  have e : digs (u : Int) = ntext (u : Int) := by rw [ntext_nn (by omega)]; rfl
  unfold tg
  rw [e, tnum_ntext (show inB _ _ _ = true from decide_eq_true (by omega))]
  rfl
theorem note_word {s : ByteArray} (h : noteOk s = true) (he : s.data.toList.isEmpty = false) : ∀ c ∈ s.data.toList, lowB c = true := by
  unfold noteOk at h
  rw [he, Bool.false_or] at h
  unfold wordOk at h
  rw [Bool.and_eq_true, List.all_eq_true] at h
  exact h.2
theorem note_blank {s : ByteArray} (h : noteOk s = true) : (32 : UInt8) ∉ noteB s := by
  unfold noteB
  cases he : s.data.toList.isEmpty with
  | true => rw [if_pos rfl]; decide
  | false =>
    rw [if_neg Bool.false_ne_true]
    intro hm
    have := note_word h he 32 hm
    revert this
    decide
theorem note_back {s : ByteArray} (h : noteOk s = true) : noteOf (noteB s) = s := by
  unfold noteB noteOf
  cases he : s.data.toList.isEmpty with
  | true =>
    have h0 : s.data.toList = [] := by simpa using he
    rw [if_pos rfl, if_pos rfl]
    exact (congrArg S h0).symm
  | false =>
    have hne : s.data.toList ≠ [45] := by
      intro h0
      have := note_word h he 45 (by rw [h0]; simp)
      revert this
      decide
    rw [if_neg Bool.false_ne_true, if_neg hne]
theorem bText_all {i p a m d : Int} {s : ByteArray} (h : billOk i p a m d s = true) : words (bText i p a m d s) = [bHead, digs i, digs p, digs a, digs m, digs d, noteB s, digs (chk (bBody i p a m d s))] := by
  have hh : (32 : UInt8) ∉ bHead := by decide
  have hn : noteOk s = true := by unfold billOk at h; rw [Bool.and_eq_true] at h; exact h.2
  have e : bText i p a m d s = bHead ++ 32 :: (digs i ++ 32 :: (digs p ++ 32 :: (digs a ++ 32 :: (digs m ++ 32 :: (digs d ++ 32 :: (noteB s ++ 32 :: digs (chk (bBody i p a m d s)))))))) := by
    unfold bText
    rw [if_pos h]
    conv => lhs; arg 1; unfold bBody tailT
    simp [Lib.joinTail]
  rw [e, words_w hh, words_w digs_no, words_w digs_no, words_w digs_no, words_w digs_no, words_w digs_no, words_w (note_blank hn)]
  have := words_last (digs (chk (bBody i p a m d s))) [] digs_no
  rw [show words (digs (chk (bBody i p a m d s))) = _ from this, List.nil_append]
/-- a bill is read as it was written -/
theorem tbV_text {i p a m d : Int} {s : ByteArray} (h : billOk i p a m d s = true) : tbV (bText i p a m d s) = .tuple #[.agg #[.int .i64 i, .int .i64 p, .int .i64 a, .int .i64 m, .int .i64 d, .string s], .bool true] := by
  have hw := bText_all h
  have hn : noteOk s = true := by unfold billOk at h; rw [Bool.and_eq_true] at h; exact h.2
  have hin := bill_in h
  have t1 := tg_digs (hin i (by simp))
  have t2 := tg_digs (hin p (by simp))
  have t3 := tg_digs (hin a (by simp))
  have t4 := tg_digs (hin m (by simp))
  have t5 := tg_digs (hin d (by simp))
  rw [tbV_eq hw, bill_all hw (by rw [t1, t2, t3, t4, t5, note_back hn]), if_pos rfl, t1, t2, t3, t4, t5, note_back hn]
theorem tbV_nil : tbV [] = tbBad := tbV_len (by decide)
theorem bText_bad {i p a m d : Int} {s : ByteArray} (h : billOk i p a m d s = false) : bText i p a m d s = [] := by unfold bText; rw [h]; rfl
theorem bText_ne {i p a m d : Int} {s : ByteArray} (h : billOk i p a m d s = true) : bText i p a m d s ≠ [] := by
  intro h0
  have := bText_all h
  rw [h0] at this
  cases this

end Go.Proofs.YtegnlijgjcfmlaaDoor
