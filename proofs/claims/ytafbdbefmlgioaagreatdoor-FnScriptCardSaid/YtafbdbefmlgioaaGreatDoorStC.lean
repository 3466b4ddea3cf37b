/- The text of a step that crashes. -/
import Derived.Test.YtafbdbefmlgioaaGreatDoorStT
namespace Go.Proofs.YtafbdbefmlgioaaGreatDoor
open Go.RowKit
set_option linter.unusedVariables false
set_option linter.unusedSimpArgs false

set_option maxRecDepth 100000 in
set_option maxHeartbeats 3200000 in
theorem st3_impl (k key ch too amt fee : Int) (yes : Bool) (a : Option Addr) (len cap : Nat) (xs : List Int) (lo hi st mn mx : Int) (w : World) (S0 : IS w w.heap.size a len xs) (T0 : PM w) (hlen : len ≤ 1048576) : Calls Tryz.prog 17 #[.agg #[.int .i64 3, .int .i64 k, .int .i64 key, .int .i64 ch, .int .i64 too, .int .i64 amt, .int .i64 fee, .bool yes, .slice a len cap, .int .i64 lo, .int .i64 hi, .int .i64 st, .int .i64 mn, .int .i64 mx]] w fun e w' => e = .returned (.string (S (stText 3 k key ch too amt fee yes xs lo hi st mn mx))) ∧ Below w.heap.size w w' := by
  have hl := S0.len
  have Hxl := Lib.hid S0.1
  go_enter Tryz.func17, Tryz.ntmps17
  go_wp2_with fail
  all_goals (try (go_ret; exact ⟨str_eq (l := []) (by simp_all [stText, evZ, ruleZ] <;> omega), by (repeat (first | (with_reducible exact Below.refl _ _) | (with_reducible assumption) | (with_reducible refine Below.setCell ?_ ?side _; case side => first | (with_reducible exact Nat.le_refl _) | (simp; done) | (simp only [World.size_alloc, World.size_setCell, World.size_drew, World.heap_drewN] at *; omega)) | (with_reducible refine below_alloc ?_ _) | (with_reducible refine Below.drew ?_) | (with_reducible refine below_drewN ?_) | (with_reducible refine below_via (by assumption) ?_)))⟩))
  have BW : Below w.heap.size w (w.alloc (.cells #[.int .i64 3, .int .i64 0, .int .i64 0, .int .i64 0, .int .i64 0, .int .i64 0, .int .i64 0, .bool false, .slice a len cap, .int .i64 0, .int .i64 0, .int .i64 0, .int .i64 0, .int .i64 0] 79)) := by (repeat (first | (with_reducible exact Below.refl _ _) | (with_reducible assumption) | (with_reducible refine Below.setCell ?_ ?side _; case side => first | (with_reducible exact Nat.le_refl _) | (simp; done) | (simp only [World.size_alloc, World.size_setCell, World.size_drew, World.heap_drewN] at *; omega)) | (with_reducible refine below_alloc ?_ _) | (with_reducible refine Below.drew ?_) | (with_reducible refine below_drewN ?_) | (with_reducible refine below_via (by assumption) ?_)))
  have S1 := S0.keep BW
  have d8 : (w.alloc (.cells #[.int .i64 3, .int .i64 0, .int .i64 0, .int .i64 0, .int .i64 0, .int .i64 0, .int .i64 0, .bool false, .slice a len cap, .int .i64 0, .int .i64 0, .int .i64 0, .int .i64 0, .int .i64 0] 79)).cell? ⟨w.heap.size, 8, none⟩ = some (.slice a len cap) := by simp [go_sem]
  generalize w.alloc (.cells #[.int .i64 3, .int .i64 0, .int .i64 0, .int .i64 0, .int .i64 0, .int .i64 0, .int .i64 0, .bool false, .slice a len cap, .int .i64 0, .int .i64 0, .int .i64 0, .int .i64 0, .int .i64 0] 79) = W1 at BW S1 d8 ⊢
  go_loopw [5, 57] (fun _ i wr => ∃ k : Nat, k ≤ len ∧ i = .int .i64 k ∧ Hid ((xs.take k).all amtOk = true) ∧ Below W1.heap.size W1 wr) (fun _ i _ => len - (intOf i).toNat)
  case atStart => exact ⟨0, Nat.zero_le _, rfl, rfl, Below.refl _ _⟩
  case round =>
    obtain ⟨k, hk, rfl, hall, hB⟩ := hrel
    by_cases hlt : k < len
    · obtain ⟨b, off, x, rfl, hb, hc, hbd, hx, hxs⟩ := (S1.keep hB).at_ hlt
      clear hbd
      cases hx1 : amtOk x with
      | true =>
        have hall2 : Hid ((xs.take (k + 1)).all amtOk = true) := by unfold Hid; rw [hxs.out, List.all_append, hall.out]; simp [hx1]
        go_wp2_with (go_at_call 47; refine (amtOk_impl _ _).mono ?_; rintro e w1 ⟨he, rfl⟩; rw [hx1] at he; subst he)
        go_roundw
        case rel => exact ⟨k + 1, by omega, by go_num, hall2, hB⟩
        case measure => simp [intOf]; omega
      | false =>
        have hno : xs.all amtOk = false := by
          rw [Bool.eq_false_iff]
          intro h
          have := List.all_eq_true.1 h x (List.mem_of_getElem? hx.out)
          rw [hx1] at this
          cases this
        have Hno := Lib.hid hno
        clear hno
        go_wp2_with (go_at_call 47; refine (amtOk_impl _ _).mono ?_; rintro e w1 ⟨he, rfl⟩; rw [hx1] at he; subst he)
        go_ret
        exact ⟨str_eq (l := []) (by simp [stText, evZ, ruleZ, Hno.out, *]), BW.trans (hB.mono BW.size)⟩
    · have hal : xs.take k = xs := List.take_of_length_le (by have := Hxl.out; omega)
      rw [hal] at hall
      have hxin : Hid (∀ x ∈ xs, 0 ≤ x ∧ x ≤ 1125899906842624) := fun x hx => amtOk_t (List.all_eq_true.1 hall.out x hx)
      have d9 := cell_keep hB d8
      have B2 := BW.trans (hB.mono BW.size)
      clear hal
      go_wp2_with fail
      refine (withNumbers_impl ⟨#[99, 114, 97, 115, 104]⟩ a len cap xs _ (S1.keep hB) (T0.pow.keep B2) hxin.out hlen (by decide)).mono ?_
      rintro e w3 ⟨rfl, b3⟩
      go_wp2
      go_ret
      refine ⟨str_eq (l := crashB ++ tailT xs) ?_, below_via b3 B2⟩
      have h1 := hall.out
      simp_all [stText, evZ, ruleZ]

set_option maxRecDepth 100000 in
set_option maxHeartbeats 3200000 in
theorem st3_spec (k key ch too amt fee : Int) (yes : Bool) (a : Option Addr) (len cap : Nat) (xs : List Int) (lo hi st mn mx : Int) (w : World) (S0 : IS w w.heap.size a len xs) (hlen : len ≤ 1048576) : Calls Tryz.prog 78 #[.agg #[.int .i64 3, .int .i64 k, .int .i64 key, .int .i64 ch, .int .i64 too, .int .i64 amt, .int .i64 fee, .bool yes, .slice a len cap, .int .i64 lo, .int .i64 hi, .int .i64 st, .int .i64 mn, .int .i64 mx]] w fun e w' => e = .returned (.string (S (stText 3 k key ch too amt fee yes xs lo hi st mn mx))) ∧ Below w.heap.size w w' := by
  have hl := S0.len
  have Hxl := Lib.hid S0.1
  cases hz : ruleZ lo hi st mn mx with
  | false =>
    have hr : Hid (stText 3 k key ch too amt fee yes xs lo hi st mn mx = []) := by unfold Hid stText; rw [hz]; simp
    go_enter Tryz.func78, Tryz.ntmps78
    go_wp2_with (go_at_call 115; refine (noRule_spec _ _ _ _ _ _).mono ?_; rintro e w1 ⟨he, b0⟩; rw [hz] at he; subst he; obtain ⟨hc0, hf0, hs0, hz0⟩ := brules b0)
    all_goals
      go_ret
      exact ⟨by rw [hr.out]; rfl, by (repeat (first | (with_reducible exact Below.refl _ _) | (with_reducible assumption) | (with_reducible refine Below.setCell ?_ ?side _; case side => first | (with_reducible exact Nat.le_refl _) | (simp; done) | (simp only [World.size_alloc, World.size_setCell, World.size_drew, World.heap_drewN] at *; omega)) | (with_reducible refine below_alloc ?_ _) | (with_reducible refine Below.drew ?_) | (with_reducible refine below_drewN ?_) | (with_reducible refine below_via (by assumption) ?_)))⟩
  | true =>
    have Hz := Lib.hid hz
    clear hz
    go_enter Tryz.func78, Tryz.ntmps78
    go_wp2_with (go_at_call 115; refine (noRule_spec _ _ _ _ _ _).mono ?_; rintro e w1 ⟨he, b0⟩; rw [Hz.out] at he; subst he; obtain ⟨hc0, hf0, hs0, hz0⟩ := brules b0)
    all_goals (try (go_ret; exact ⟨str_eq (l := []) (by have h2 := Hz.out; simp_all [stText, evZ] <;> omega), by (repeat (first | (with_reducible exact Below.refl _ _) | (with_reducible assumption) | (with_reducible refine Below.setCell ?_ ?side _; case side => first | (with_reducible exact Nat.le_refl _) | (simp; done) | (simp only [World.size_alloc, World.size_setCell, World.size_drew, World.heap_drewN] at *; omega)) | (with_reducible refine below_alloc ?_ _) | (with_reducible refine Below.drew ?_) | (with_reducible refine below_drewN ?_) | (with_reducible refine below_via (by assumption) ?_)))⟩))
    have BW : Below w.heap.size w w1 := below_via b0 (by (repeat (first | (with_reducible exact Below.refl _ _) | (with_reducible assumption) | (with_reducible refine Below.setCell ?_ ?side _; case side => first | (with_reducible exact Nat.le_refl _) | (simp; done) | (simp only [World.size_alloc, World.size_setCell, World.size_drew, World.heap_drewN] at *; omega)) | (with_reducible refine below_alloc ?_ _) | (with_reducible refine Below.drew ?_) | (with_reducible refine below_drewN ?_) | (with_reducible refine below_via (by assumption) ?_))))
    have S1 := S0.keep BW
    clear hc0 hf0 hs0 hz0 b0
    obtain ⟨Z, hZ⟩ : ∃ Z : Nat → ByteArray, Hid (∀ k, Z k = S (crashB ++ tailT (xs.take k))) := ⟨fun k => _, fun k => rfl⟩
    have hZ0 : Hid (Z 0 = ⟨#[99, 114, 97, 115, 104]⟩) := by unfold Hid; rw [hZ.out]; rfl
    rw [← hZ0.out]
    go_loopw [4, 6, 59] (fun v _ i wr => ∃ k : Nat, k ≤ len ∧ i = .int .i64 k ∧ v = .string (Z k) ∧ Hid ((xs.take k).all amtOk = true) ∧ Below w1.heap.size w1 wr) (fun _ _ i _ => len - (intOf i).toNat)
    case atStart => exact ⟨0, Nat.zero_le _, rfl, rfl, rfl, Below.refl _ _⟩
    case round =>
      obtain ⟨k, hk, rfl, rfl, hall, hB⟩ := hrel
      by_cases hlt : k < len
      · obtain ⟨b, off, x, rfl, hb, hc, hbd, hx, hxs⟩ := (S1.keep hB).at_ hlt
        clear hbd
        cases hx1 : amtOk x with
        | true =>
          have hall2 : Hid ((xs.take (k + 1)).all amtOk = true) := by unfold Hid; rw [hxs.out, List.all_append, hall.out]; simp [hx1]
          have hx2 := amtOk_t hx1
          obtain ⟨u, rfl⟩ : ∃ u : Nat, x = (u : Int) := ⟨x.toNat, by omega⟩
          have hu : u ≤ 1125899906842624 := by omega
          have hd := dec_len u hu
          have hd2 : (S (Lib.decDigits u)).size ≤ 20 := by have := hd.2; simpa [S, ByteArray.size] using this
          have hZs : (Z k).size ≤ 30000000 := by
            rw [hZ.out]
            have q1 := tailT_len (xs.take k) (fun x hx => amtOk_t (List.all_eq_true.1 hall.out x hx))
            rw [List.length_take] at q1
            simp only [S, ByteArray.size, List.size_toArray, List.length_append, crashB, List.length_cons, List.length_nil]
            omega
          have hZ32 : (Z k ++ { data := #[32] } : ByteArray).size ≤ 30000001 := by rw [ByteArray.size_append]; show (Z k).size + 1 ≤ _; omega
          have hne : Hid (Z k ++ { data := #[32] } ++ S (Lib.decDigits u) = Z (k + 1)) := by
            unfold Hid
            rw [hZ.out, hZ.out, hxs.out, tailT_snoc, show ({ data := #[32] } : ByteArray) = S [32] from rfl, S_append, S_append]
            simp [digs]
          clear hd
          go_wp2_with (first | (go_at_call 117; refine (amtOk_spec _ _).mono ?_; rintro e w2 ⟨he, rfl⟩; rw [hx1] at he; subst he) | (go_at_call 58; refine (numText_spec0 u hu _).mono ?_; rintro e w4 ⟨rfl, b4⟩))
          go_roundw
          case rel => exact ⟨k + 1, by omega, by go_num, by rw [hne.out], hall2, below_via b4 hB⟩
          case measure => simp [intOf]; omega
        | false =>
          have hno : xs.all amtOk = false := by
            rw [Bool.eq_false_iff]
            intro h
            have := List.all_eq_true.1 h x (List.mem_of_getElem? hx.out)
            rw [hx1] at this
            cases this
          have Hno := Lib.hid hno
          clear hno
          go_wp2_with (go_at_call 117; refine (amtOk_spec _ _).mono ?_; rintro e w2 ⟨he, rfl⟩; rw [hx1] at he; subst he)
          go_ret
          exact ⟨str_eq (l := []) (by simp [stText, evZ, Hno.out, Hz.out, *]), BW.trans (hB.mono BW.size)⟩
      · have hal : xs.take k = xs := List.take_of_length_le (by have := Hxl.out; omega)
        rw [hal] at hall
        have hZk : Hid (Z k = S (crashB ++ tailT xs)) := by unfold Hid; rw [hZ.out, hal]
        have B2 := BW.trans (hB.mono BW.size)
        clear hal
        go_wp2_with fail
        go_ret
        refine ⟨Eq.trans (b := .returned (.string (Z k))) rfl ?_, B2⟩
        rw [hZk.out]
        refine str_eq ?_
        have h1 := hall.out
        have h2 := Hz.out
        simp_all [stText, evZ]

set_option maxRecDepth 100000 in
set_option maxHeartbeats 3200000 in
theorem st1_impl (k key ch too amt fee : Int) (yes : Bool) (a : Option Addr) (len cap : Nat) (xs : List Int) (lo hi st mn mx : Int) (w : World) (S0 : IS w w.heap.size a len xs) (T0 : PM w) : Calls Tryz.prog 17 #[.agg #[.int .i64 1, .int .i64 k, .int .i64 key, .int .i64 ch, .int .i64 too, .int .i64 amt, .int .i64 fee, .bool yes, .slice a len cap, .int .i64 lo, .int .i64 hi, .int .i64 st, .int .i64 mn, .int .i64 mx]] w fun e w' => e = .returned (.string (S (stText 1 k key ch too amt fee yes xs lo hi st mn mx))) ∧ Below w.heap.size w w' := by
  have hl := S0.1
  cases hok : evOk k key ch too amt fee yes with
  | false =>
    have hr : Hid (stText 1 k key ch too amt fee yes xs lo hi st mn mx = []) := by unfold Hid stText; rw [hok]; simp
    have hbad := evText_bad hok
    go_enter Tryz.func17, Tryz.ntmps17
    go_wp2_with (first | (go_at_call 46; refine (evText_impl _ _ _ _ _ _ _ _ (T0.keep (by (repeat (first | (with_reducible exact Below.refl _ _) | (with_reducible assumption) | (with_reducible refine Below.setCell ?_ ?side _; case side => first | (with_reducible exact Nat.le_refl _) | (simp; done) | (simp only [World.size_alloc, World.size_setCell, World.size_drew, World.heap_drewN] at *; omega)) | (with_reducible refine below_alloc ?_ _) | (with_reducible refine Below.drew ?_) | (with_reducible refine below_drewN ?_) | (with_reducible refine below_via (by assumption) ?_)))))).mono ?_; rintro e w2 ⟨rfl, b2⟩; rw [hbad]))
    all_goals
      go_ret
      exact ⟨by rw [hr.out]; rfl, by (repeat (first | (with_reducible exact Below.refl _ _) | (with_reducible assumption) | (with_reducible refine Below.setCell ?_ ?side _; case side => first | (with_reducible exact Nat.le_refl _) | (simp; done) | (simp only [World.size_alloc, World.size_setCell, World.size_drew, World.heap_drewN] at *; omega)) | (with_reducible refine below_alloc ?_ _) | (with_reducible refine Below.drew ?_) | (with_reducible refine below_drewN ?_) | (with_reducible refine below_via (by assumption) ?_)))⟩
  | true =>
    have hlen := evText_len k key ch too amt fee yes
    have hne : (evText k key ch too amt fee yes).isEmpty = false := by cases h : evText k key ch too amt fee yes with | nil => exact absurd h (evText_ne hok) | cons => rfl
    have Hok := Lib.hid hok
    clear hok
    go_enter Tryz.func17, Tryz.ntmps17
    go_wp2_with (first | (go_at_call 46; refine (evText_impl _ _ _ _ _ _ _ _ (T0.keep (by (repeat (first | (with_reducible exact Below.refl _ _) | (with_reducible assumption) | (with_reducible refine Below.setCell ?_ ?side _; case side => first | (with_reducible exact Nat.le_refl _) | (simp; done) | (simp only [World.size_alloc, World.size_setCell, World.size_drew, World.heap_drewN] at *; omega)) | (with_reducible refine below_alloc ?_ _) | (with_reducible refine Below.drew ?_) | (with_reducible refine below_drewN ?_) | (with_reducible refine below_via (by assumption) ?_)))))).mono ?_; rintro e w2 ⟨rfl, b2⟩))
    all_goals
      go_ret
      refine ⟨?_, by (repeat (first | (with_reducible exact Below.refl _ _) | (with_reducible assumption) | (with_reducible refine Below.setCell ?_ ?side _; case side => first | (with_reducible exact Nat.le_refl _) | (simp; done) | (simp only [World.size_alloc, World.size_setCell, World.size_drew, World.heap_drewN] at *; omega)) | (with_reducible refine below_alloc ?_ _) | (with_reducible refine Below.drew ?_) | (with_reducible refine below_drewN ?_) | (with_reducible refine below_via (by assumption) ?_)))⟩
      first
        | exact str_eq (l := []) (by simp_all [stText, evZ, ruleZ] <;> omega)
        | (refine str_eq (l := takeB ++ evText k key ch too amt fee yes) ?_; have h1 := Hok.out; simp_all [stText, evZ, ruleZ]; done)
        | (refine Eq.trans ?_ (str_eq (l := takeB ++ evText k key ch too amt fee yes) ?_); · rw [← S_append]; rfl
           · have h1 := Hok.out; simp_all [stText, evZ, ruleZ]; try omega)

set_option maxRecDepth 100000 in
set_option maxHeartbeats 3200000 in
theorem st1_spec (k key ch too amt fee : Int) (yes : Bool) (a : Option Addr) (len cap : Nat) (xs : List Int) (lo hi st mn mx : Int) (w : World) (S0 : IS w w.heap.size a len xs) : Calls Tryz.prog 78 #[.agg #[.int .i64 1, .int .i64 k, .int .i64 key, .int .i64 ch, .int .i64 too, .int .i64 amt, .int .i64 fee, .bool yes, .slice a len cap, .int .i64 lo, .int .i64 hi, .int .i64 st, .int .i64 mn, .int .i64 mx]] w fun e w' => e = .returned (.string (S (stText 1 k key ch too amt fee yes xs lo hi st mn mx))) ∧ Below w.heap.size w w' := by
  have hl := S0.1
  cases hok : evOk k key ch too amt fee yes with
  | false =>
    have hr : Hid (stText 1 k key ch too amt fee yes xs lo hi st mn mx = []) := by unfold Hid stText; rw [hok]; simp
    have hbad := evText_bad hok
    go_enter Tryz.func78, Tryz.ntmps78
    go_wp2_with (first | (go_at_call 116; refine (evOk_spec _ _ _ _ _ _ _ _).mono ?_; rintro e w1 ⟨he, b1⟩; rw [hok] at he; subst he; obtain ⟨hc1, hf1, hs1, hz1⟩ := brules b1) | (go_at_call 115; refine (noRule_spec _ _ _ _ _ _).mono ?_; rintro e w1 ⟨rfl, b0⟩; obtain ⟨hc0, hf0, hs0, hz0⟩ := brules b0) | (go_at_call 114; refine (evText_spec _ _ _ _ _ _ _ _).mono ?_; rintro e w2 ⟨rfl, b2⟩; rw [hbad]))
    all_goals
      go_ret
      exact ⟨by rw [hr.out]; rfl, by (repeat (first | (with_reducible exact Below.refl _ _) | (with_reducible assumption) | (with_reducible refine Below.setCell ?_ ?side _; case side => first | (with_reducible exact Nat.le_refl _) | (simp; done) | (simp only [World.size_alloc, World.size_setCell, World.size_drew, World.heap_drewN] at *; omega)) | (with_reducible refine below_alloc ?_ _) | (with_reducible refine Below.drew ?_) | (with_reducible refine below_drewN ?_) | (with_reducible refine below_via (by assumption) ?_)))⟩
  | true =>
    have hlen := evText_len k key ch too amt fee yes
    have hne : (evText k key ch too amt fee yes).isEmpty = false := by cases h : evText k key ch too amt fee yes with | nil => exact absurd h (evText_ne hok) | cons => rfl
    have Hok := Lib.hid hok
    clear hok
    go_enter Tryz.func78, Tryz.ntmps78
    go_wp2_with (first | (go_at_call 116; refine (evOk_spec _ _ _ _ _ _ _ _).mono ?_; rintro e w1 ⟨he, b1⟩; rw [Hok.out] at he; subst he; obtain ⟨hc1, hf1, hs1, hz1⟩ := brules b1) | (go_at_call 115; refine (noRule_spec _ _ _ _ _ _).mono ?_; rintro e w1 ⟨rfl, b0⟩; obtain ⟨hc0, hf0, hs0, hz0⟩ := brules b0) | (go_at_call 114; refine (evText_spec _ _ _ _ _ _ _ _).mono ?_; rintro e w2 ⟨rfl, b2⟩))
    all_goals
      go_ret
      refine ⟨?_, by (repeat (first | (with_reducible exact Below.refl _ _) | (with_reducible assumption) | (with_reducible refine Below.setCell ?_ ?side _; case side => first | (with_reducible exact Nat.le_refl _) | (simp; done) | (simp only [World.size_alloc, World.size_setCell, World.size_drew, World.heap_drewN] at *; omega)) | (with_reducible refine below_alloc ?_ _) | (with_reducible refine Below.drew ?_) | (with_reducible refine below_drewN ?_) | (with_reducible refine below_via (by assumption) ?_)))⟩
      first
        | exact str_eq (l := []) (by simp_all [stText, evZ, ruleZ] <;> omega)
        | (refine str_eq (l := takeB ++ evText k key ch too amt fee yes) ?_; have h1 := Hok.out; simp_all [stText, evZ, ruleZ]; done)
        | (refine Eq.trans ?_ (str_eq (l := takeB ++ evText k key ch too amt fee yes) ?_); · rw [← S_append]; rfl
           · have h1 := Hok.out; simp_all [stText, evZ, ruleZ]; try omega)

end Go.Proofs.YtafbdbefmlgioaaGreatDoor
