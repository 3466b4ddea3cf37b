/- Numbers read: the reference. -/
import Derived.Test.YtafbdbefmlgioaaGreatDoorNumN
import Derived.Test.YtafbdbefmlgioaaGreatDoorCheck
import Derived.Lib.Atoi
import Derived.Lib.AtoiTie
import Derived.Lib.AtoiAllCases
namespace Go.Proofs.YtafbdbefmlgioaaGreatDoor
open Go.RowKit
set_option linter.unusedVariables false
set_option linter.unusedSimpArgs false

theorem decFrom_snoc (c : UInt8) : ∀ (xs : List UInt8) (acc : Nat), Lib.decFrom acc (xs ++ [c]) = match Lib.decFrom acc xs with | none => none | some n => (match Lib.digitVal c with | some d => some (n * 10 + d) | none => none)
  | [], acc => by
    simp only [List.nil_append, Lib.decFrom]
    cases Lib.digitVal c <;> rfl
  | x :: r, acc => by
    simp only [List.cons_append, Lib.decFrom]
    cases Lib.digitVal x with
    | none => rfl
    | some d => exact decFrom_snoc c r _
theorem digit_of {c : UInt8} (h : 48 ≤ c.toNat ∧ c.toNat ≤ 57) : Lib.digitVal c = some (c.toNat - 48) := by unfold Lib.digitVal; rw [if_pos h]
theorem digit_no {c : UInt8} (h : ¬ (48 ≤ c.toNat ∧ c.toNat ≤ 57)) : Lib.digitVal c = none := by unfold Lib.digitVal; rw [if_neg h]
/-- what stands behind a sign -/
def bodyB : List UInt8 → List UInt8
  | [] => []
  | c :: r => if c = 45 then r else c :: r
def negB (l : List UInt8) : Bool := l.head? == some 45
def tval (l : List UInt8) : Option Int := (Lib.decFrom 0 (bodyB l)).map fun v => if negB l = true then -(v : Int) else v
/-- what TextNum reads -/
def tnum (l : List UInt8) : Option Int := if 1 ≤ l.length ∧ l.length ≤ 17 then (tval l).bind fun n => if ntext n = l then some n else none else none
theorem body_take0 (c : UInt8) (h : c = 45) : bodyB ([] ++ [c]) = [] := by subst h; rfl
theorem body_take1 (c : UInt8) (h : c ≠ 45) : bodyB ([] ++ [c]) = bodyB [] ++ [c] := by simp [bodyB, h]
theorem body_snoc {xs : List UInt8} (hx : xs ≠ []) (c : UInt8) : bodyB (xs ++ [c]) = bodyB xs ++ [c] := by
  cases xs with
  | nil => exact absurd rfl hx
  | cons x r =>
    simp only [List.cons_append, bodyB]
    split <;> rfl
theorem tnum_len {l : List UInt8} (h : ¬ (1 ≤ l.length ∧ l.length ≤ 17)) : tnum l = none := if_neg h
theorem tnum_none {l : List UInt8} (h : tval l = none) : tnum l = none := by
  unfold tnum
  split
  · rw [h]; rfl
  · rfl
theorem tnum_no {l : List UInt8} {n : Int} (h : tval l = some n) (h2 : ntext n ≠ l) : tnum l = none := by
  unfold tnum
  split
  · rw [h]; exact if_neg h2
  · rfl
theorem tnum_yes {l : List UInt8} {n : Int} (hl : 1 ≤ l.length ∧ l.length ≤ 17) (h : tval l = some n) (h2 : ntext n = l) : tnum l = some n := by
  unfold tnum
  rw [if_pos hl, h]
  exact if_pos h2
theorem tval_bad {l : List UInt8} {c : UInt8} (hc : c ∈ bodyB l) (h : ¬ (48 ≤ c.toNat ∧ c.toNat ≤ 57)) : tval l = none := by
  unfold tval
  cases hd : Lib.decFrom 0 (bodyB l) with
  | none => rfl
  | some v =>
    obtain ⟨k, hk⟩ := List.getElem?_of_mem hc
    obtain ⟨d, hdd⟩ := Lib.digit_of_decFrom _ _ _ hd k c hk
    rw [digit_no h] at hdd
    cases hdd
theorem mem_body {l : List UInt8} {k : Nat} {c : UInt8} (h : l[k]? = some c) (h2 : ¬ (k = 0 ∧ c = 45)) : c ∈ bodyB l := by
  cases l with
  | nil => simp at h
  | cons x r =>
    show c ∈ (if x = 45 then r else x :: r)
    cases k with
    | zero =>
      simp at h
      subst h
      rw [if_neg (fun h3 => h2 ⟨rfl, h3⟩)]
      exact List.mem_cons_self
    | succ k =>
      simp at h
      have := List.mem_of_getElem? h
      split
      · exact this
      · exact List.mem_cons_of_mem _ this
theorem beqS_yes {l : List UInt8} {y : ByteArray} (h : S l = y) : (l == y.toList) = true := by
  subst h
  rw [ByteArray.toList_eq]
  exact beq_self_eq_true l
theorem beqS_no {l : List UInt8} {y : ByteArray} (h : S l ≠ y) : (l == y.toList) = false := by
  rw [ByteArray.toList_eq]
  exact beq_eq_false_iff_ne.2 fun h2 => h (by rw [h2])
theorem S_self (s : ByteArray) : S s.data.toList = s := rfl
def tnV (l : List UInt8) : Value := match tnum l with | some n => .tuple #[.int .i64 n, .bool true] | none => .tuple #[.int .i64 0, .bool false]
theorem tnV_none {l : List UInt8} (h : tnum l = none) : tnV l = .tuple #[.int .i64 0, .bool false] := by unfold tnV; rw [h]
theorem tnV_some {l : List UInt8} {n : Int} (h : tnum l = some n) : tnV l = .tuple #[.int .i64 n, .bool true] := by unfold tnV; rw [h]

set_option maxRecDepth 100000 in
set_option maxHeartbeats 3200000 in
theorem textNum_spec (s : ByteArray) (hs : s.size ≤ 9223372036854775807) (w : World) : Calls Tryz.prog 76 #[.string s] w fun e w' => e = .returned (tnV s.data.toList) ∧ Below w.heap.size w w' := by
  have hsl : s.data.toList.length = s.size := Array.length_toList
  by_cases hlen : 1 ≤ s.size ∧ s.size ≤ 17
  · obtain ⟨h1, h17⟩ := hlen
    obtain ⟨V, hV⟩ : ∃ V, V = tnV s.data.toList := ⟨_, rfl⟩
    rw [← hV]
    have HV := Lib.hid hV
    have Hsl := Lib.hid hsl
    clear hV hsl
    have hb0 := byte_bd (s[0]'(by omega))
    go_enter Tryz.func76, Tryz.ntmps76
    go_wp2
    go_loop [4, 5] (fun vn i => ∃ (k v : Nat), k ≤ s.size ∧ i = .int .i64 k ∧ vn = .int .i64 v ∧ v < 10 ^ k ∧ Hid (Lib.decFrom 0 (bodyB (s.data.toList.take k)) = some v)) (fun _ i => s.size - (intOf i).toNat)
    case atStart => exact ⟨0, 0, Nat.zero_le _, rfl, rfl, by simp, rfl⟩
    case round =>
      obtain ⟨k, v, hk, rfl, rfl, hv, hd⟩ := hrel
      have hp : 10 ^ k ≤ 10 ^ 17 := Nat.pow_le_pow_right (by omega) (by omega)
      have hv2 : v ≤ 100000000000000000 := by omega
      by_cases hlt : k < s.size
      · have hb := byte_bd s[k]
        have hts := Lib.hid (take_snoc s k hlt)
        by_cases hk0 : k = 0
        · have e0 : ((k : Int) == 0) = true := by simp [hk0]
          have hc0 : s[k] = s[0] := by simp only [hk0]
          by_cases h45 : s[0].toNat = 45
          · have e1 : ((s[0].toNat : Int) == 45) = true := by simp; omega
            have hv0 : Hid (Lib.decFrom 0 (bodyB (s.data.toList.take (k + 1))) = some v) := by
              have h5 := hd.out
              have h6 : s.data.toList.take k = [] := by rw [hk0]; rfl
              unfold Hid
              rw [hts.out]
              rw [h6] at h5 ⊢
              rw [body_take0 _ (by rw [hc0]; exact UInt8.toNat_inj.1 h45)]
              exact h5
            have hv3 : v < 10 ^ (k + 1) := by rw [Nat.pow_succ]; omega
            clear hk0 hc0
            go_wp2
            go_round
            case rel => exact ⟨k + 1, v, by omega, by go_num, rfl, hv3, hv0⟩
            case measure => simp [intOf]; omega
          · have e1 : ((s[0].toNat : Int) == 45) = false := by simp; omega
            have hno : ¬ (k = 0 ∧ s[k] = 45) := by intro h5; rw [hc0] at h5; exact h45 (by rw [h5.2]; rfl)
            have hbs : Hid (bodyB (s.data.toList.take (k + 1)) = bodyB (s.data.toList.take k) ++ [s[k]]) := by
              have h6 : s.data.toList.take k = [] := by rw [hk0]; rfl
              unfold Hid
              rw [hts.out, h6]
              exact body_take1 _ (fun h5 => hno ⟨hk0, h5⟩)
            have Hc0 := Lib.hid hc0
            have Hk0 := Lib.hid hk0
            clear hk0 hc0
            by_cases hdg : 48 ≤ s[k].toNat ∧ s[k].toNat ≤ 57
            · have hne : Hid (Lib.decFrom 0 (bodyB (s.data.toList.take (k + 1))) = some (v * 10 + (s[k].toNat - 48))) := by
                unfold Hid
                rw [hbs.out, decFrom_snoc, hd.out, digit_of hdg]
              have hv3 : v * 10 + (s[k].toNat - 48) < 10 ^ (k + 1) := by rw [Nat.pow_succ]; omega
              have d1 : decide ((s[k].toNat : Int) < 48) = false := decide_eq_false (by omega)
              have d2 : decide ((57 : Int) < (s[k].toNat : Int)) = false := decide_eq_false (by omega)
              obtain ⟨g1, g2⟩ := hdg
              go_wp2
              go_round
              case rel => exact ⟨k + 1, v * 10 + (s[k].toNat - 48), by omega, by go_num, by first | go_num | (congr 1; omega), hv3, hne⟩
              case measure => simp [intOf]; omega
            · have hr : Hid (V = .tuple #[.int .i64 0, .bool false]) := by
                unfold Hid
                rw [HV.out]
                exact tnV_none (tnum_none (tval_bad (mem_body (k := k) (by rw [List.getElem?_eq_getElem (by rw [Hsl.out]; exact hlt)]; rfl) hno) hdg))
              by_cases hdl : s[k].toNat < 48
              all_goals
                go_wp2
                go_ret2
                exact ⟨by rw [hr.out]; rfl, Below.refl _ _⟩
        · have e0 : ((k : Int) == 0) = false := by simp; omega
          have hno : ¬ (k = 0 ∧ s[k] = 45) := fun h5 => hk0 h5.1
          have hbs : Hid (bodyB (s.data.toList.take (k + 1)) = bodyB (s.data.toList.take k) ++ [s[k]]) := by
            unfold Hid
            rw [hts.out]
            refine body_snoc (fun h5 => ?_) _
            have h6 := congrArg List.length h5
            rw [List.length_take, Hsl.out, List.length_nil] at h6
            omega
          by_cases hdg : 48 ≤ s[k].toNat ∧ s[k].toNat ≤ 57
          · have hne : Hid (Lib.decFrom 0 (bodyB (s.data.toList.take (k + 1))) = some (v * 10 + (s[k].toNat - 48))) := by
              unfold Hid
              rw [hbs.out, decFrom_snoc, hd.out, digit_of hdg]
            have hv3 : v * 10 + (s[k].toNat - 48) < 10 ^ (k + 1) := by rw [Nat.pow_succ]; omega
            have d1 : decide ((s[k].toNat : Int) < 48) = false := decide_eq_false (by omega)
            have d2 : decide ((57 : Int) < (s[k].toNat : Int)) = false := decide_eq_false (by omega)
            obtain ⟨g1, g2⟩ := hdg
            go_wp2
            go_round
            case rel => exact ⟨k + 1, v * 10 + (s[k].toNat - 48), by omega, by go_num, by first | go_num | (congr 1; omega), hv3, hne⟩
            case measure => simp [intOf]; omega
          · have hr : Hid (V = .tuple #[.int .i64 0, .bool false]) := by
              unfold Hid
              rw [HV.out]
              exact tnV_none (tnum_none (tval_bad (mem_body (k := k) (by rw [List.getElem?_eq_getElem (by rw [Hsl.out]; exact hlt)]; rfl) hno) hdg))
            by_cases hdl : s[k].toNat < 48
            all_goals
              go_wp2
              go_ret2
              exact ⟨by rw [hr.out]; rfl, Below.refl _ _⟩
      · have htk : s.data.toList.take k = s.data.toList := List.take_of_length_le (by rw [Hsl.out]; omega)
        have hd2 := hd.out
        rw [htk] at hd2
        have hng : ∀ c : UInt8, negB s.data.toList = (s.data.toList[0]? == some 45) := fun _ => by unfold negB; cases s.data.toList <;> rfl
        have hl0 : s.data.toList[0]? = some (s[0]'(by omega)) := by rw [List.getElem?_eq_getElem (by rw [Hsl.out]; omega)]; rfl
        have hng := hng 0
        rw [hl0] at hng
        have hll : 1 ≤ s.data.toList.length ∧ s.data.toList.length ≤ 17 := by rw [Hsl.out]; exact ⟨h1, h17⟩
        have hvi : (v : Int) ≤ 100000000000000000 := by omega
        by_cases h45 : s[0].toNat = 45
        · have e1 : ((s[0].toNat : Int) == 45) = true := by simp; omega
          have ht : tval s.data.toList = some (-(v : Int)) := by
            unfold tval
            rw [hd2, hng, show s[0]'(by omega) = 45 from UInt8.toNat_inj.1 h45]
            rfl
          by_cases hs2 : S (ntext (-(v : Int))) = s
          · have hr : Hid (V = .tuple #[.int .i64 (-(v : Int)), .bool true]) := by
              unfold Hid
              rw [HV.out]
              exact tnV_some (tnum_yes hll ht (congrArg (fun z : ByteArray => z.data.toList) hs2))
            have e2 : (ntext (-(v : Int)) == s.toList) = true := beqS_yes hs2
            clear hs2 ht hng hl0 hd2 htk hll
            go_wp2_with fail
            refine (numText_spec (-(v : Int)) (by omega) _).mono ?_
            rintro e w1 ⟨rfl, b1⟩
            go_wp2
            go_wp2
            go_ret2
            exact ⟨by rw [hr.out]; rfl, b1⟩
          · have hr : Hid (V = .tuple #[.int .i64 0, .bool false]) := by
              unfold Hid
              rw [HV.out]
              exact tnV_none (tnum_no ht (fun h5 => hs2 (by rw [h5])))
            have e2 : (ntext (-(v : Int)) == s.toList) = false := beqS_no hs2
            clear hs2 ht hng hl0 hd2 htk hll
            go_wp2_with fail
            refine (numText_spec (-(v : Int)) (by omega) _).mono ?_
            rintro e w1 ⟨rfl, b1⟩
            go_wp2
            go_ret2
            exact ⟨by rw [hr.out]; rfl, b1⟩
        · have e1 : ((s[0].toNat : Int) == 45) = false := by simp; omega
          have ht : tval s.data.toList = some (v : Int) := by
            unfold tval
            rw [hd2, hng, show (some (s[0]'(by omega)) == some (45 : UInt8)) = false from beq_eq_false_iff_ne.2 (fun h5 => h45 (by rw [Option.some.inj h5]; rfl))]
            rfl
          by_cases hs2 : S (ntext (v : Int)) = s
          · have hr : Hid (V = .tuple #[.int .i64 (v : Int), .bool true]) := by
              unfold Hid
              rw [HV.out]
              exact tnV_some (tnum_yes hll ht (congrArg (fun z : ByteArray => z.data.toList) hs2))
            have e2 : (ntext (v : Int) == s.toList) = true := beqS_yes hs2
            clear hs2 ht hng hl0 hd2 htk hll
            go_wp2_with fail
            refine (numText_spec (v : Int) (by omega) _).mono ?_
            rintro e w1 ⟨rfl, b1⟩
            go_wp2
            go_ret2
            exact ⟨by rw [hr.out]; rfl, b1⟩
          · have hr : Hid (V = .tuple #[.int .i64 0, .bool false]) := by
              unfold Hid
              rw [HV.out]
              exact tnV_none (tnum_no ht (fun h5 => hs2 (by rw [h5])))
            have e2 : (ntext (v : Int) == s.toList) = false := beqS_no hs2
            clear hs2 ht hng hl0 hd2 htk hll
            go_wp2_with fail
            refine (numText_spec (v : Int) (by omega) _).mono ?_
            rintro e w1 ⟨rfl, b1⟩
            go_wp2
            go_ret2
            exact ⟨by rw [hr.out]; rfl, b1⟩
  · have hr : Hid (tnV s.data.toList = .tuple #[.int .i64 0, .bool false]) := by
      unfold Hid
      exact tnV_none (tnum_len (by rw [hsl]; exact hlen))
    clear hsl
    by_cases h0 : s.size < 1
    all_goals
      go_enter Tryz.func76, Tryz.ntmps76
      go_wp2
      go_ret2
      exact ⟨by rw [hr.out]; rfl, Below.refl _ _⟩

theorem decDigits_big {u : Nat} (h : ¬ u < 10) : Lib.decDigits u = Lib.decDigits (u / 10) ++ [UInt8.ofNat (48 + u % 10)] := by rw [Lib.decDigits, dif_neg h]
theorem digit_ofNat {d : Nat} (h : d < 10) : Lib.digitVal (UInt8.ofNat (48 + d)) = some d := by
  have e : (UInt8.ofNat (48 + d)).toNat = 48 + d := by rw [UInt8.toNat_ofNat']; omega
  rw [digit_of (by rw [e]; omega), e]
  congr 1
  omega
theorem decFrom_dec (u : Nat) : Lib.decFrom 0 (Lib.decDigits u) = some u := by
  induction u using Nat.strongRecOn with
  | ind u ih =>
    by_cases h : u < 10
    · rw [Lib.decDigits_one h]
      simp only [Lib.decFrom, digit_ofNat h]
      congr 1
      omega
    · rw [decDigits_big h, decFrom_snoc, ih (u / 10) (by omega)]
      simp only [digit_ofNat (show u % 10 < 10 by omega)]
      congr 1
      omega
theorem decNat_dec (u : Nat) : Lib.decNat (Lib.decDigits u) = some u := by
  unfold Lib.decNat
  have h1 := Lib.decDigits_length u
  have h2 := Lib.nDigits_pos u
  cases h : Lib.decDigits u with
  | nil => rw [h] at h1; simp at h1; omega
  | cons c r => rw [← h]; rw [show (Lib.decDigits u).isEmpty = false by rw [h]; rfl]; exact decFrom_dec u
theorem dec_head (u : Nat) : ∃ c r, Lib.decDigits u = c :: r ∧ 48 ≤ c.toNat ∧ c.toNat ≤ 57 := by
  have h1 := Lib.decDigits_length u
  have h2 := Lib.nDigits_pos u
  cases h : Lib.decDigits u with
  | nil => rw [h] at h1; simp at h1; omega
  | cons c r =>
    obtain ⟨d, hd⟩ := Lib.digit_of_decFrom _ _ _ (decFrom_dec u) 0 c (by rw [h]; rfl)
    refine ⟨c, r, rfl, ?_⟩
    unfold Lib.digitVal at hd
    split at hd
    · assumption
    · cases hd
theorem tval_dec (u : Nat) : tval (Lib.decDigits u) = some (u : Int) := by
  obtain ⟨c, r, h, h1, h2⟩ := dec_head u
  have hc : c ≠ 45 := fun e => by subst e; simp at h1
  have hb : bodyB (Lib.decDigits u) = Lib.decDigits u := by rw [h]; exact if_neg hc
  have hn : negB (Lib.decDigits u) = false := by rw [h]; exact beq_eq_false_iff_ne.2 fun e => hc (Option.some.inj e)
  unfold tval
  rw [hb, hn, decFrom_dec]
  rfl
theorem tval_neg (u : Nat) : tval (45 :: Lib.decDigits u) = some (-(u : Int)) := by
  unfold tval
  rw [show bodyB (45 :: Lib.decDigits u) = Lib.decDigits u from rfl, decFrom_dec]
  rfl
theorem ntext_cases {n : Int} (h : numOk n = true) : (∃ u : Nat, n = (u : Int) ∧ u ≤ 1125899906842624 ∧ ntext n = Lib.decDigits u) ∨ (∃ u : Nat, n = -(u : Int) ∧ 1 ≤ u ∧ u ≤ 1125899906842624 ∧ ntext n = 45 :: Lib.decDigits u) := by
  have hb := inB_t h
  by_cases hn : n < 0
  · obtain ⟨u, rfl⟩ : ∃ u : Nat, n = -(u : Int) := ⟨n.natAbs, by omega⟩
    exact .inr ⟨u, rfl, by omega, by omega, ntext_neg (by omega) (by omega)⟩
  · obtain ⟨u, rfl⟩ : ∃ u : Nat, n = (u : Int) := ⟨n.toNat, by omega⟩
    exact .inl ⟨u, rfl, by omega, ntext_nn (by omega)⟩
theorem ntext_len1 {n : Int} (h : numOk n = true) : 1 ≤ (ntext n).length := by
  rcases ntext_cases h with ⟨u, rfl, hu, e⟩ | ⟨u, rfl, h1, hu, e⟩
  · rw [e]; exact (dec_len16 hu).1
  · rw [e]; simp
theorem tval_ntext {n : Int} (h : numOk n = true) : tval (ntext n) = some n := by
  rcases ntext_cases h with ⟨u, rfl, hu, e⟩ | ⟨u, rfl, h1, hu, e⟩
  · rw [e, tval_dec]
  · rw [e, tval_neg]
theorem tnum_ntext {n : Int} (h : numOk n = true) : tnum (ntext n) = some n := tnum_yes ⟨ntext_len1 h, ntext_len n⟩ (tval_ntext h) rfl
theorem tnum_elim {l : List UInt8} {n : Int} (h : tnum l = some n) : numOk n = true ∧ ntext n = l := by
  unfold tnum at h
  split at h
  · rename_i hl
    cases ht : tval l with
    | none => rw [ht] at h; cases h
    | some m =>
      rw [ht] at h
      have h2 : (if ntext m = l then some m else none) = some n := h
      split at h2
      · rename_i hm
        cases h2
        refine ⟨?_, hm⟩
        cases hk : numOk n with
        | true => rfl
        | false => rw [ntext_out hk] at hm; rw [← hm] at hl; simp at hl
      · cases h2
  · cases h
theorem atoiAll_ntext {n : Int} (h : numOk n = true) : Lib.atoiAll (ntext n) = .ok n := by
  rw [Lib.atoiAll_short _ (Nat.le_trans (ntext_len n) (by omega))]
  rcases ntext_cases h with ⟨u, rfl, hu, e⟩ | ⟨u, rfl, h1, hu, e⟩
  · obtain ⟨c, r, hd, h1, h2⟩ := dec_head u
    have e45 : (c == 45) = false := beq_eq_false_iff_ne.2 fun e => by subst e; simp at h1
    have e43 : (c == 43) = false := beq_eq_false_iff_ne.2 fun e => by subst e; simp at h1
    rw [e, hd]
    have e0 : Lib.atoi (c :: r) = (Lib.decNat (c :: r)).map fun (m : Nat) => (m : Int) := by
      show (if (c == 45) = true then _ else if (c == 43) = true then _ else _) = _
      rw [e45, e43]
      rfl
    rw [e0, ← hd, decNat_dec]
    rfl
  · rw [e]
    unfold Lib.atoi
    simp only [beq_self_eq_true, if_true]
    rw [decNat_dec]
    rfl
theorem atoi_no {l : List UInt8} {v : Int} (ht : tnum l = none) (h : Lib.atoiAll l = .ok v) : ntext v ≠ l := by
  intro e
  cases hk : numOk v with
  | true => rw [← e, tnum_ntext hk] at ht; cases ht
  | false => rw [ntext_out hk] at e; subst e; cases h

set_option maxHeartbeats 800000 in
theorem numText_implN (n : Int) (h0 : -9223372036854775808 ≤ n) (h1 : n ≤ 9223372036854775807) (w : World) (T : Pow w) : Calls Tryz.prog 66 #[.int .i64 n] w fun e w' => e = .returned (.string (S (ntext n))) ∧ Below w.heap.size w w' := by
  cases h : numOk n with
  | false =>
    have hr := Lib.hid (ntext_out h)
    unfold numOk at h
    go_enter Tryz.func66, Tryz.ntmps66
    go_wp2_with (first | (go_at_call 85; refine (in_impl _ _ _ _).mono ?_; rintro e w1 ⟨he, rfl⟩; rw [h] at he; subst he) | (go_at_call 102; refine (Tryz.strconv_Itoa n (by omega) (by omega) _ T).mono ?_; rintro e w1 ⟨rfl, k, os, rfl⟩))
    go_ret
    exact ⟨by rw [hr.out]; rfl, Below.refl _ _⟩
  | true =>
    have hr : Hid (ntext n = Lib.itoa n) := by unfold Hid ntext; rw [if_pos h]
    unfold numOk at h
    go_enter Tryz.func66, Tryz.ntmps66
    go_wp2_with (first | (go_at_call 85; refine (in_impl _ _ _ _).mono ?_; rintro e w1 ⟨he, rfl⟩; rw [h] at he; subst he) | (go_at_call 102; refine (Tryz.strconv_Itoa n (by omega) (by omega) _ T).mono ?_; rintro e w1 ⟨rfl, k, os, rfl⟩))
    go_ret
    exact ⟨by first | (rw [hr.out]; rfl) | rfl, Lib.below_grow _ _ (Nat.le_refl _) k os⟩

/-- what the listed variables hold -/
structure LV (w : World) : Prop where
  pow : Pow w
  syn : ∃ tp p, w.cell? ⟨3, 0, none⟩ = some (.iface tp p)
  rng : ∃ tp p, w.cell? ⟨4, 0, none⟩ = some (.iface tp p)
  mx : ∃ m, w.cell? ⟨0, 0, none⟩ = some (.int .i64 m)
theorem keep_cell {w w' : World} {g : Nat} {v : Value} (h : w.cell? ⟨g, 0, none⟩ = some v) (hb : Below w.heap.size w w') : w'.cell? ⟨g, 0, none⟩ = some v :=
  (hb.cell (show (⟨g, 0, none⟩ : Addr).block < w.heap.size from Lib.lt_of_cell h)).trans h
theorem LV.keep {w w' : World} (h : LV w) (hb : Below w.heap.size w w') : LV w' := by
  obtain ⟨a, ⟨t1, p1, h1⟩, ⟨t2, p2, h2⟩, ⟨m, h3⟩⟩ := h
  exact ⟨a.keep hb, ⟨t1, p1, keep_cell h1 hb⟩, ⟨t2, p2, keep_cell h2 hb⟩, ⟨m, keep_cell h3 hb⟩⟩

theorem atoi_world {w w1 : World} {t : TypeId} (h : w1 = w ∨ ∃ s, w1 = Lib.bytesWorld w t s) : Below w.heap.size w w1 := by
  rcases h with rfl | ⟨s, rfl⟩
  · exact Below.refl _ _
  · exact Lib.bytesWorld_below _ _ _

set_option maxRecDepth 100000 in
set_option maxHeartbeats 3200000 in
theorem textNum_impl (s : ByteArray) (hs : s.size ≤ 281474976710656) (w : World) (T : LV w) : Calls Tryz.prog 88 #[.string s] w fun e w' => e = .returned (tnV s.data.toList) ∧ Below w.heap.size w w' := by
  have TP := T.pow
  obtain ⟨t1, p1, hsy⟩ := T.syn
  obtain ⟨t2, p2, hrg⟩ := T.rng
  cases ht : tnum s.data.toList with
  | some n =>
    obtain ⟨hn, hl⟩ := tnum_elim ht
    have hat : Lib.atoiAll s.data.toList = .ok n := by rw [← hl]; exact atoiAll_ntext hn
    have hr := Lib.hid (tnV_some ht)
    have hb := inB_t hn
    have e2 : (ntext n == s.toList) = true := beqS_yes (by rw [hl])
    clear hl ht
    go_enter Tryz.func88, Tryz.ntmps88
    go_wp2_with fail
    refine (Tryz.strconv_Atoi_ok s (by omega) n hat _).mono ?_
    rintro e w1 ⟨rfl, hw1⟩
    have b1 := atoi_world hw1
    clear hw1
    go_wp2_with fail
    refine (numText_implN n (by omega) (by omega) _ (TP.keep b1)).mono ?_
    rintro e w2 ⟨rfl, b2⟩
    go_wp2
    go_ret2
    exact ⟨by rw [hr.out]; rfl, below_via b2 b1⟩
  | none =>
    have hr := Lib.hid (tnV_none ht)
    rcases hat : Lib.atoiAll s.data.toList with n | - | -
    · have hb := Lib.atoiAll_bounds hat
      have e2 : (ntext n == s.toList) = false := beqS_no (fun h => atoi_no ht hat (congrArg (fun z : ByteArray => z.data.toList) h))
      clear ht
      go_enter Tryz.func88, Tryz.ntmps88
      go_wp2_with fail
      refine (Tryz.strconv_Atoi_ok s (by omega) n hat _).mono ?_
      rintro e w1 ⟨rfl, hw1⟩
      have b1 := atoi_world hw1
      clear hw1
      go_wp2_with fail
      refine (numText_implN n (by omega) (by omega) _ (TP.keep b1)).mono ?_
      rintro e w2 ⟨rfl, b2⟩
      go_wp2
      go_ret2
      exact ⟨by rw [hr.out]; rfl, below_via b2 b1⟩
    · clear ht
      go_enter Tryz.func88, Tryz.ntmps88
      go_wp2_with fail
      refine (Tryz.strconv_Atoi_syntax s (by omega) hat _ _ hsy (.inr ⟨_, _, rfl⟩)).mono ?_
      rintro e w1 ⟨N, rfl, -, -, b1⟩
      go_wp2
      go_ret2
      exact ⟨by rw [hr.out]; rfl, b1⟩
    · clear ht
      go_enter Tryz.func88, Tryz.ntmps88
      go_wp2_with fail
      refine (Tryz.strconv_Atoi_range s (by omega) hat _ _ hrg (.inr ⟨_, _, rfl⟩)).mono ?_
      rintro e w1 ⟨N, rfl, -, -, b1⟩
      go_wp2
      go_ret2
      exact ⟨by rw [hr.out]; rfl, b1⟩

end Go.Proofs.YtafbdbefmlgioaaGreatDoor
