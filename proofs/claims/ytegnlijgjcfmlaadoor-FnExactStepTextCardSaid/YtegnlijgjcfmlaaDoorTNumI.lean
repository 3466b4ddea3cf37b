/- Numbers read: the program. -/
import Derived.Test.YtegnlijgjcfmlaaDoorTNum
import Derived.Lib.AtoiTie
import Derived.Lib.AtoiAllCases
namespace Go.Proofs.YtegnlijgjcfmlaaDoor
open Go.RowKit
set_option linter.unusedVariables false
set_option linter.unusedSimpArgs false

theorem decDigits_big {u : Nat} (h : ¬ u < 10) : Lib.decDigits u = Lib.decDigits (u / 10) ++ [UInt8.ofNat (48 + u % 10)] := by rw [Lib.decDigits, dif_neg h]
theorem digit_ofNat {d : Nat} (h : d < 10) : Lib.digitVal (UInt8.ofNat (48 + d)) = some d := by
  have e : (UInt8.ofNat (48 + d)).toNat = 48 + d := by rw [UInt8.toNat_ofNat']; omega
  rw [digit_of (by rw [e]; omega), e]
  congr 1
  omega
theorem decFrom_dec (u : Nat) : Lib.decFrom 0 (Lib.decDigits u) = some u := by
  induction u using Nat.strongRecOn with
  | ind u ih =>
    by_cases h : u < 10
    · rw [Lib.decDigits_one h]
      simp only [Lib.decFrom, digit_ofNat h]
      congr 1
      omega
    · rw [decDigits_big h, decFrom_snoc, ih (u / 10) (by omega)]
      simp only [digit_ofNat (show u % 10 < 10 by omega)]
      congr 1
      omega
theorem decNat_dec (u : Nat) : Lib.decNat (Lib.decDigits u) = some u := by
  unfold Lib.decNat
  have h1 := Lib.decDigits_length u
  have h2 := Lib.nDigits_pos u
  cases h : Lib.decDigits u with
  | nil => rw [h] at h1; simp at h1; omega
  | cons c r => rw [← h]; rw [show (Lib.decDigits u).isEmpty = false by rw [h]; rfl]; exact decFrom_dec u
theorem dec_head (u : Nat) : ∃ c r, Lib.decDigits u = c :: r ∧ 48 ≤ c.toNat ∧ c.toNat ≤ 57 := by
  have h1 := Lib.decDigits_length u
  have h2 := Lib.nDigits_pos u
  cases h : Lib.decDigits u with
  | nil => rw [h] at h1; simp at h1; omega
  | cons c r =>
    obtain ⟨d, hd⟩ := Lib.digit_of_decFrom _ _ _ (decFrom_dec u) 0 c (by rw [h]; rfl)
    refine ⟨c, r, rfl, ?_⟩
    unfold Lib.digitVal at hd
    split at hd
    · assumption
    · cases hd
theorem tval_dec (u : Nat) : tval (Lib.decDigits u) = some (u : Int) := by
  obtain ⟨c, r, h, h1, h2⟩ := dec_head u
  have hc : c ≠ 45 := fun e => by subst e; simp at h1
  have hb : bodyB (Lib.decDigits u) = Lib.decDigits u := by rw [h]; exact if_neg hc
  have hn : negB (Lib.decDigits u) = false := by rw [h]; exact beq_eq_false_iff_ne.2 fun e => hc (Option.some.inj e)
  unfold tval
  rw [hb, hn, decFrom_dec]
  rfl
theorem tval_neg (u : Nat) : tval (45 :: Lib.decDigits u) = some (-(u : Int)) := by
  unfold tval
  rw [show bodyB (45 :: Lib.decDigits u) = Lib.decDigits u from rfl, decFrom_dec]
  rfl
theorem ntext_cases {n : Int} (h : numOk n = true) : (∃ u : Nat, n = (u : Int) ∧ u ≤ 1125899906842624 ∧ ntext n = Lib.decDigits u) ∨ (∃ u : Nat, n = -(u : Int) ∧ 1 ≤ u ∧ u ≤ 1125899906842624 ∧ ntext n = 45 :: Lib.decDigits u) := by
  have hb := inB_t h
  by_cases hn : n < 0
  · obtain ⟨u, rfl⟩ : ∃ u : Nat, n = -(u : Int) := ⟨n.natAbs, by omega⟩
    exact .inr ⟨u, rfl, by omega, by omega, ntext_neg (by omega) (by omega)⟩
  · obtain ⟨u, rfl⟩ : ∃ u : Nat, n = (u : Int) := ⟨n.toNat, by omega⟩
    exact .inl ⟨u, rfl, by omega, ntext_nn (by omega)⟩
theorem ntext_len1 {n : Int} (h : numOk n = true) : 1 ≤ (ntext n).length := by
  rcases ntext_cases h with ⟨u, rfl, hu, e⟩ | ⟨u, rfl, h1, hu, e⟩
  · rw [e]; exact (dec_len16 hu).1
  · rw [e]; simp
theorem tval_ntext {n : Int} (h : numOk n = true) : tval (ntext n) = some n := by
  rcases ntext_cases h with ⟨u, rfl, hu, e⟩ | ⟨u, rfl, h1, hu, e⟩
  · rw [e, tval_dec]
  · rw [e, tval_neg]
theorem tnum_ntext {n : Int} (h : numOk n = true) : tnum (ntext n) = some n := tnum_yes ⟨ntext_len1 h, ntext_len n⟩ (tval_ntext h) rfl
theorem tnum_elim {l : List UInt8} {n : Int} (h : tnum l = some n) : numOk n = true ∧ ntext n = l := by
  unfold tnum at h
  split at h
  · rename_i hl
    cases ht : tval l with
    | none => rw [ht] at h; cases h
    | some m =>
      rw [ht] at h
      have h2 : (if ntext m = l then some m else none) = some n := h
      split at h2
      · rename_i hm
        cases h2
        refine ⟨?_, hm⟩
        cases hk : numOk n with
        | true => rfl
        | false => rw [ntext_out hk] at hm; rw [← hm] at hl; simp at hl
      · cases h2
  · cases h
theorem atoiAll_ntext {n : Int} (h : numOk n = true) : Lib.atoiAll (ntext n) = .ok n := by
  rw [Lib.atoiAll_short _ (Nat.le_trans (ntext_len n) (by omega))]
  rcases ntext_cases h with ⟨u, rfl, hu, e⟩ | ⟨u, rfl, h1, hu, e⟩
  · obtain ⟨c, r, hd, h1, h2⟩ := dec_head u
    have e45 : (c == 45) = false := beq_eq_false_iff_ne.2 fun e => by subst e; simp at h1
    have e43 : (c == 43) = false := beq_eq_false_iff_ne.2 fun e => by subst e; simp at h1
    rw [e, hd]
    have e0 : Lib.atoi (c :: r) = (Lib.decNat (c :: r)).map fun (m : Nat) => (m : Int) := by
      show (if (c == 45) = true then _ else if (c == 43) = true then _ else _) = _
      rw [e45, e43]
      rfl
    rw [e0, ← hd, decNat_dec]
    rfl
  · rw [e]
    unfold Lib.atoi
    simp only [beq_self_eq_true, if_true]
    rw [decNat_dec]
    rfl
theorem atoi_no {l : List UInt8} {v : Int} (ht : tnum l = none) (h : Lib.atoiAll l = .ok v) : ntext v ≠ l := by
  intro e
  cases hk : numOk v with
  | true => rw [← e, tnum_ntext hk] at ht; cases ht
  | false => rw [ntext_out hk] at e; subst e; cases h

set_option maxHeartbeats 800000 in
theorem numText_implN (n : Int) (h0 : -9223372036854775808 ≤ n) (h1 : n ≤ 9223372036854775807) (w : World) (T : Pow w) : Calls Tryd.prog 44 #[.int .i64 n] w fun e w' => e = .returned (.string (S (ntext n))) ∧ Below w.heap.size w w' := by
  cases h : numOk n with
  | false =>
    have hr := Lib.hid (ntext_out h)
    unfold numOk at h
    go_enter Tryd.func44, Tryd.ntmps44
    go_wp2_with (first | (go_at_call 39; refine (in_impl _ _ _ _).mono ?_; rintro e w1 ⟨he, rfl⟩; rw [h] at he; subst he) | (go_at_call 85; refine (Tryd.strconv_Itoa n (by omega) (by omega) _ T).mono ?_; rintro e w1 ⟨rfl, k, os, rfl⟩))
    go_ret
    exact ⟨by rw [hr.out]; rfl, Below.refl _ _⟩
  | true =>
    have hr : Hid (ntext n = Lib.itoa n) := by unfold Hid ntext; rw [if_pos h]
    unfold numOk at h
    go_enter Tryd.func44, Tryd.ntmps44
    go_wp2_with (first | (go_at_call 39; refine (in_impl _ _ _ _).mono ?_; rintro e w1 ⟨he, rfl⟩; rw [h] at he; subst he) | (go_at_call 85; refine (Tryd.strconv_Itoa n (by omega) (by omega) _ T).mono ?_; rintro e w1 ⟨rfl, k, os, rfl⟩))
    go_ret
    exact ⟨by first | (rw [hr.out]; rfl) | rfl, Lib.below_grow _ _ (Nat.le_refl _) k os⟩

/-- what the listed variables hold -/
structure LV (w : World) : Prop where
  pow : Pow w
  syn : ∃ tp p, w.cell? ⟨4, 0, none⟩ = some (.iface tp p)
  rng : ∃ tp p, w.cell? ⟨5, 0, none⟩ = some (.iface tp p)
  mx : ∃ m, w.cell? ⟨0, 0, none⟩ = some (.int .i64 m)
theorem keep_cell {w w' : World} {g : Nat} {v : Value} (h : w.cell? ⟨g, 0, none⟩ = some v) (hb : Below w.heap.size w w') : w'.cell? ⟨g, 0, none⟩ = some v :=
  (hb.cell (show (⟨g, 0, none⟩ : Addr).block < w.heap.size from Lib.lt_of_cell h)).trans h
theorem LV.keep {w w' : World} (h : LV w) (hb : Below w.heap.size w w') : LV w' := by
  obtain ⟨a, ⟨t1, p1, h1⟩, ⟨t2, p2, h2⟩, ⟨m, h3⟩⟩ := h
  exact ⟨a.keep hb, ⟨t1, p1, keep_cell h1 hb⟩, ⟨t2, p2, keep_cell h2 hb⟩, ⟨m, keep_cell h3 hb⟩⟩

theorem atoi_world {w w1 : World} {t : TypeId} (h : w1 = w ∨ ∃ s, w1 = Lib.bytesWorld w t s) : Below w.heap.size w w1 := by
  rcases h with rfl | ⟨s, rfl⟩
  · exact Below.refl _ _
  · exact Lib.bytesWorld_below _ _ _

set_option maxRecDepth 100000 in
set_option maxHeartbeats 3200000 in
theorem textNum_impl (s : ByteArray) (hs : s.size ≤ 281474976710656) (w : World) (T : LV w) : Calls Tryd.prog 93 #[.string s] w fun e w' => e = .returned (tnV s.data.toList) ∧ Below w.heap.size w w' := by
  have TP := T.pow
  obtain ⟨t1, p1, hsy⟩ := T.syn
  obtain ⟨t2, p2, hrg⟩ := T.rng
  cases ht : tnum s.data.toList with
  | some n =>
    obtain ⟨hn, hl⟩ := tnum_elim ht
    have hat : Lib.atoiAll s.data.toList = .ok n := by rw [← hl]; exact atoiAll_ntext hn
    have hr := Lib.hid (tnV_some ht)
    have hb := inB_t hn
    have e2 : (ntext n == s.toList) = true := beqS_yes (by rw [hl])
    clear hl ht
    go_enter Tryd.func93, Tryd.ntmps93
    go_wp2_with fail
    refine (Tryd.strconv_Atoi_ok s (by omega) n hat _).mono ?_
    rintro e w1 ⟨rfl, hw1⟩
    have b1 := atoi_world hw1
    clear hw1
    go_wp2_with fail
    refine (numText_implN n (by omega) (by omega) _ (TP.keep b1)).mono ?_
    rintro e w2 ⟨rfl, b2⟩
    go_wp2
    go_ret2
    exact ⟨by rw [hr.out]; rfl, below_via b2 b1⟩
  | none =>
    have hr := Lib.hid (tnV_none ht)
    rcases hat : Lib.atoiAll s.data.toList with n | - | -
    · have hb := Lib.atoiAll_bounds hat
      have e2 : (ntext n == s.toList) = false := beqS_no (fun h => atoi_no ht hat (congrArg (fun z : ByteArray => z.data.toList) h))
      clear ht
      go_enter Tryd.func93, Tryd.ntmps93
      go_wp2_with fail
      refine (Tryd.strconv_Atoi_ok s (by omega) n hat _).mono ?_
      rintro e w1 ⟨rfl, hw1⟩
      have b1 := atoi_world hw1
      clear hw1
      go_wp2_with fail
      refine (numText_implN n (by omega) (by omega) _ (TP.keep b1)).mono ?_
      rintro e w2 ⟨rfl, b2⟩
      go_wp2
      go_ret2
      exact ⟨by rw [hr.out]; rfl, below_via b2 b1⟩
    · clear ht
      go_enter Tryd.func93, Tryd.ntmps93
      go_wp2_with fail
      refine (Tryd.strconv_Atoi_syntax s (by omega) hat _ _ hsy (.inr ⟨_, _, rfl⟩)).mono ?_
      rintro e w1 ⟨N, rfl, -, -, b1⟩
      go_wp2
      go_ret2
      exact ⟨by rw [hr.out]; rfl, b1⟩
    · clear ht
      go_enter Tryd.func93, Tryd.ntmps93
      go_wp2_with fail
      refine (Tryd.strconv_Atoi_range s (by omega) hat _ _ hrg (.inr ⟨_, _, rfl⟩)).mono ?_
      rintro e w1 ⟨N, rfl, -, -, b1⟩
      go_wp2
      go_ret2
      exact ⟨by rw [hr.out]; rfl, b1⟩

end Go.Proofs.YtegnlijgjcfmlaaDoor
