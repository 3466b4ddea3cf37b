/- The text of a route: the reference; small numbers. -/
import Derived.Test.YtegnlijgjcfmlaaDoorNumT
import Derived.Test.YtegnlijgjcfmlaaDoorInts
import Derived.Lib.Join
namespace Go.Proofs.YtegnlijgjcfmlaaDoor
open Go.RowKit
set_option linter.unusedVariables false
set_option linter.unusedSimpArgs false

def digs (x : Int) : List UInt8 := Lib.decDigits x.toNat
def rtIn (xs : List Int) : Bool := xs.all fun x => inB x 0 40
def rtJ (xs : List Int) : List UInt8 := Lib.join (xs.map digs) [62]
def rText (xs : List Int) : List UInt8 := if rtIn xs = true then rtJ xs else []
theorem join_snoc (xs : List (List UInt8)) (x sep : List UInt8) : Lib.join (xs ++ [x]) sep = if xs = [] then x else Lib.join xs sep ++ sep ++ x := by
  cases xs with
  | nil => rw [if_pos rfl]; exact Lib.join_one x sep
  | cons y r =>
    rw [if_neg (by simp), List.cons_append, Lib.join_cons, Lib.join_cons]
    simp [Lib.joinTail]
theorem rtJ_nil : rtJ [] = [] := rfl
theorem rtJ_one (x : Int) : rtJ ([] ++ [x]) = digs x := by unfold rtJ; simp [Lib.join_one]
theorem rtJ_snoc {xs : List Int} (h : xs ≠ []) (x : Int) : rtJ (xs ++ [x]) = rtJ xs ++ [62] ++ digs x := by
  unfold rtJ
  rw [List.map_append, List.map_cons, List.map_nil, join_snoc, if_neg (by simpa using h)]
theorem digs_len {x : Int} (h : inB x 0 40 = true) : 1 ≤ (digs x).length ∧ (digs x).length ≤ 2 := by
  have hb := inB_t h
  unfold digs
  by_cases h1 : x.toNat < 10
  · rw [Lib.decDigits_one h1]; simp
  · rw [Lib.decDigits_two h1 (by omega)]; simp
theorem rtIn_snoc {xs : List Int} {x : Int} (h : rtIn xs = true) (hx : inB x 0 40 = true) : rtIn (xs ++ [x]) = true := by simp [rtIn, List.all_append] at h ⊢; exact ⟨h, hx⟩
theorem rtIn_bad {xs : List Int} {k : Nat} {x : Int} (h : xs[k]? = some x) (hx : inB x 0 40 = false) : rText xs = [] := by
  have : rtIn xs = false := by
    unfold rtIn
    rw [List.all_eq_false]
    exact ⟨x, List.mem_of_getElem? h, by simp [hx]⟩
  unfold rText; rw [this]; rfl
theorem tail_len : ∀ (r : List Int), rtIn r = true → (Lib.joinTail [62] (r.map digs)).length ≤ 3 * r.length
  | [], _ => by simp [Lib.joinTail]
  | x :: r, h => by
    have h' : inB x 0 40 = true ∧ rtIn r = true := by simpa [rtIn] using h
    have hd := digs_len h'.1
    have ih := tail_len r h'.2
    have e : Lib.joinTail [62] ((x :: r).map digs) = ([62] ++ digs x) ++ Lib.joinTail [62] (r.map digs) := by simp [Lib.joinTail]
    rw [e, List.length_append, List.length_append]
    simp only [List.length_cons, List.length_nil]
    omega
theorem rtJ_len : ∀ (xs : List Int), rtIn xs = true → (rtJ xs).length ≤ 3 * xs.length
  | [], _ => by simp [rtJ_nil]
  | x :: r, h => by
    have h' : inB x 0 40 = true ∧ rtIn r = true := by simpa [rtIn] using h
    have hd := digs_len h'.1
    have ih := tail_len r h'.2
    unfold rtJ
    rw [List.map_cons, Lib.join_cons, List.length_append, List.length_cons]
    omega

set_option maxRecDepth 100000 in
set_option maxHeartbeats 3200000 in
theorem routeText_spec (a : Option Addr) (len cap : Nat) (xs : List Int) (w : World) (S0 : IS w w.heap.size a len xs) (hlen : len ≤ 1048576) : Calls Tryd.prog 14 #[.slice a len cap] w fun e w' => e = .returned (.string (S (rText xs))) ∧ Below w.heap.size w w' := by
  have hl := S0.len
  have Hxl := Lib.hid S0.1
  go_enter Tryd.func14, Tryd.ntmps14
  go_wp2
  go_loopw [3, 4, 5, 8] (fun v _ _ i wr => ∃ k : Nat, k ≤ len ∧ i = .int .i64 k ∧ v = .string (S (rtJ (xs.take k))) ∧ Hid (rtIn (xs.take k) = true) ∧ Below w.heap.size w wr) (fun _ _ _ i _ => len - (intOf i).toNat)
  case atStart => exact ⟨0, Nat.zero_le _, rfl, rfl, rfl, Below.refl _ _⟩
  case round =>
    obtain ⟨k, hk, rfl, rfl, hin, hB⟩ := hrel
    by_cases hlt : k < len
    · obtain ⟨b, off, x, rfl, hb, hc, hbd, hx, hxs⟩ := (S0.keep hB).at_ hlt
      rcases Bool.eq_false_or_eq_true (inB x 0 40) with hx1 | hx1
      · have hxb := inB_t hx1
        obtain ⟨u, rfl⟩ : ∃ u : Nat, x = (u : Int) := ⟨x.toNat, by omega⟩
        have hu : u ≤ 40 := by omega
        have hd := digs_len hx1
        have hd2 : (S (Lib.decDigits u)).size ≤ 2 := by have := hd.2; simpa [digs, S, ByteArray.size] using this
        have hJ := rtJ_len _ hin.out
        have hin2 := Lib.hid (rtIn_snoc hin.out hx1)
        obtain ⟨T, hT⟩ : ∃ T, T = S (rtJ (xs.take k)) := ⟨_, rfl⟩
        have hTs : T.size ≤ 3 * k := by rw [hT]; simp [S, ByteArray.size] at hJ ⊢; omega
        have hT2 : (T ++ { data := #[62] } : ByteArray).size ≤ 3 * k + 1 := by rw [ByteArray.size_append]; show T.size + 1 ≤ 3 * k + 1; omega
        rw [← hT]
        have HT := Lib.hid hT
        clear hT hJ hd hbd
        by_cases hk0 : 0 < k
        · have hne : Hid (rtJ (xs.take (k + 1)) = rtJ (xs.take k) ++ [62] ++ digs u) := by unfold Hid; rw [hxs.out]; exact rtJ_snoc (by intro h; have h9 : (xs.take k).length = 0 := (by rw [h]; rfl); rw [List.length_take] at h9; have := Hxl.out; omega) _
          go_wp2_with (go_at_call 46; refine (numText_spec0 u (by omega) _).mono ?_; rintro e w2 ⟨rfl, b2⟩)
          go_roundw
          case rel => exact ⟨k + 1, by omega, by go_num, by rw [hne.out, HT.out, ← S_append, ← S_append]; rfl, by unfold Hid; rw [hxs.out]; exact hin2.out, below_via b2 hB⟩
          case measure => simp [intOf]; omega
        · have hk1 : k = 0 := by omega
          have hne : Hid (rtJ (xs.take (k + 1)) = digs u) := by unfold Hid; rw [hxs.out, hk1]; exact rtJ_one _
          have hT0 : Hid (S (rtJ (xs.take k)) = S []) := by unfold Hid; rw [hk1]; rfl
          have e0 : decide ((0 : Int) < (k : Int)) = false := decide_eq_false (by omega)
          clear hk1
          go_wp2_with (go_at_call 46; refine (numText_spec0 u (by omega) _).mono ?_; rintro e w2 ⟨rfl, b2⟩)
          go_roundw
          case rel => exact ⟨k + 1, by omega, by go_num, by rw [hne.out, HT.out, hT0.out, S_append]; rfl, by unfold Hid; rw [hxs.out]; exact hin2.out, below_via b2 hB⟩
          case measure => simp [intOf]; omega
      · have hxb := inB_f hx1
        have Hr := Lib.hid (rtIn_bad hx.out hx1)
        by_cases h0 : x < 0
        all_goals
          go_wp2
          go_ret
          exact ⟨by rw [Hr.out]; rfl, hB⟩
    · have hall := S0.all (k := k) (by omega)
      have hr : Hid (rtJ (xs.take k) = rText xs) := by unfold Hid rText; rw [hall] at hin ⊢; rw [hin.out]; rfl
      clear hall
      go_wp2
      go_ret
      exact ⟨by rw [← hr.out]; rfl, hB⟩

theorem inB_u {u : Nat} (hu : u < 100) : inB (u : Int) (-1125899906842624) 1125899906842624 = true := decide_eq_true (by omega)

set_option maxHeartbeats 800000 in
theorem numText_small (u : Nat) (w : World) (hu : u < 100) : Calls Tryd.prog 44 #[.int .i64 (u : Int)] w fun e w' => e = .returned (.string (S (Lib.decDigits u))) ∧ w = w' := by
  have h := inB_u hu
  go_enter Tryd.func44, Tryd.ntmps44
  go_wp2_with (first | (go_at_call 39; refine (in_impl _ _ _ _).mono ?_; rintro e w1 ⟨he, rfl⟩; rw [h] at he; subst he) | (go_at_call 85; refine (Tryd.strconv_Itoa_small u hu _).mono ?_; rintro e w1 ⟨rfl, rfl⟩))
  go_ret
  exact ⟨rfl, rfl⟩

end Go.Proofs.YtegnlijgjcfmlaaDoor
