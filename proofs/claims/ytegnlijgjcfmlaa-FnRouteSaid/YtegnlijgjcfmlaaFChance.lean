/- Chances: the plain law; its draw. -/
import Derived.Test.YtegnlijgjcfmlaaChance
import Derived.Test.YtegnlijgjcfmlaaPSum
import Derived.Test.YtegnlijgjcfmlaaDrawG
import Derived.Test.YtegnlijgjcfmlaaOwnA
namespace Go.Proofs.Ytegnlijgjcfmlaa
open Go.RowKit
set_option linter.unusedVariables false
set_option linter.unusedSimpArgs false

theorem dvq_t {a b c : Int} (h : dv a b c = true) : dvq a b c = a * b / c := if_pos h
theorem dv_mk {a b c : Int} (h : (0 ≤ a ∧ a ≤ 1125899906842624) ∧ (0 ≤ b ∧ b ≤ 1125899906842624) ∧ 1 ≤ c ∧ c ≤ 1125899906842624) (h2 : a * b / c ≤ 1125899906842624) : dv a b c = true := by
  unfold dv
  rw [dvIn_of h]
  unfold dk
  simpa using h2
theorem div_le_of {a b c : Int} (hc : 0 < c) (ha : 0 ≤ a) (hb : b ≤ c) : a * b / c ≤ a := by
  have h1 : a * b ≤ a * c := Int.mul_le_mul_of_nonneg_left hb ha
  have h2 : a * b / c ≤ a * c / c := Int.ediv_le_ediv hc h1
  rwa [Int.mul_ediv_cancel _ (by omega)] at h2
theorem chance_hi (f t l p n : Int) : chance f t l p n ≤ 1000000 := by
  unfold chance
  split
  · rename_i h
    have hg := h.1
    rw [guessOk_iff] at hg
    have hg := of_decide_eq_true hg
    have hn := amtOk_t h.2.1
    split
    · omega
    · have h1 : (p - n + 1) * 1000000 / (p - l + 1) ≤ 1000000 := by
        rw [Int.mul_comm]
        exact div_le_of (by omega) (by omega) (by omega)
      unfold dvq
      split
      · exact h1
      · omega
  · omega
theorem dvq_mil {c x : Int} (hc : 0 ≤ c ∧ c ≤ 1000000) (hx : 0 ≤ x ∧ x ≤ 1000000) : 0 ≤ dvq c x 1000000 ∧ dvq c x 1000000 ≤ c ∧ dvq c x 1000000 ≤ x := by
  have h1 : c * x / 1000000 ≤ c := div_le_of (by omega) hc.1 hx.2
  have h2 : c * x / 1000000 ≤ x := by rw [Int.mul_comm]; exact div_le_of (by omega) hx.1 hc.2
  rw [dvq_t (dv_mk ⟨by omega, by omega, by omega⟩ (by omega))]
  exact ⟨Int.ediv_nonneg (Int.mul_nonneg hc.1 hx.1) (by omega), h1, h2⟩
theorem chGo_le (n : Int) : ∀ (xs : List Gs) (c : Int), (0 ≤ c ∧ c ≤ 1000000) → let r := xs.foldl (fun c r => dvq c (r.chance n) 1000000) c
    0 ≤ r ∧ r ≤ c ∧ ∀ x ∈ xs, r ≤ x.chance n
  | [], c, hc => ⟨hc.1, Int.le_refl _, fun x hx => by cases hx⟩
  | y :: ys, c, hc => by
    have h1 := dvq_mil hc ⟨(chance_bd y.f y.t y.l y.p n).1, chance_hi y.f y.t y.l y.p n⟩
    have h2 := chGo_le n ys (dvq c (y.chance n) 1000000) ⟨h1.1, Int.le_trans h1.2.1 hc.2⟩
    refine ⟨h2.1, Int.le_trans h2.2.1 h1.2.1, fun x hx => ?_⟩
    rcases List.mem_cons.1 hx with rfl | hx
    · exact Int.le_trans h2.2.1 h1.2.2
    · exact h2.2.2 x hx
theorem chAll_mil (xs : List Gs) (n : Int) : 0 ≤ chAll xs n ∧ chAll xs n ≤ 1000000 := by
  have h := chGo_le n xs 1000000 (by omega)
  exact ⟨h.1, h.2.1⟩
theorem chAll_le {xs : List Gs} {n : Int} {k : Nat} {x : Gs} (h : xs[k]? = some x) : chAll xs n ≤ x.chance n :=
  (chGo_le n xs 1000000 (by omega)).2.2 x (List.mem_of_getElem? h)
theorem chance_mono {f t l p n : Int} (hg : guessOk f t l p = true) (hp : p < 1125899906842624) (hn : 0 < n ∧ n < 1125899906842624) : chance f t l p (n + 1) ≤ chance f t l p n := by
  have hg' := hg
  rw [guessOk_iff] at hg'
  have hg' := of_decide_eq_true hg'
  by_cases h1 : p < n + 1
  · rw [chance_3 h1]; exact (chance_bd f t l p n).1
  · by_cases h2 : n ≤ l
    · rw [chance_4 hg (amtOk_t' (by omega) (by omega)) (by omega) h2]; exact chance_hi _ _ _ _ _
    · rw [chance_5 hg (amtOk_t' (by omega) (by omega)) (by omega) h2, chance_5 hg (amtOk_t' (by omega) (by omega)) (by omega) (by omega)]
      have h3 : (p - n + 1) * 1000000 / (p - l + 1) ≤ 1000000 := by rw [Int.mul_comm]; exact div_le_of (by omega) (by omega) (by omega)
      have h4 : (p - (n + 1) + 1) * 1000000 / (p - l + 1) ≤ (p - n + 1) * 1000000 / (p - l + 1) := Int.ediv_le_ediv (by omega) (by omega)
      rw [dvq_t (dv_mk ⟨by omega, by omega, by omega⟩ (by omega)), dvq_t (dv_mk ⟨by omega, by omega, by omega⟩ (by omega))]
      exact h4
theorem new_cells (w : World) (cs : Array Value) (t : TypeId) {l : List Value} (h : cs.toList = l) : ∀ j u, l[j]? = some u → (w.alloc (.cells cs t)).cell? ⟨w.heap.size, j, none⟩ = some u := by
  intro j u hj
  subst h
  rw [World.cell?_alloc_at _ _ _ _ rfl]
  simpa using hj
theorem OwnF.made {α : Type} {enc : α → List Value} {sz : Nat} {E : TypeId} (w : World) (B : Nat) (hb : B ≤ w.heap.size) : OwnF enc sz E (w.alloc (.cells #[] E)) B (.slice (some ⟨w.heap.size, 0, none⟩) 0 0) ([] : List α) :=
  World.ownsRow_made w #[] 0 hb (by simp [maxLen]) (by simp)
theorem Gs.one (x : Gs) : ∀ u ∈ x.enc, u.oneCell' = true := by
  intro u hu
  simp [Gs.enc] at hu
  rcases hu with rfl | rfl | rfl | rfl <;> rfl
theorem Drew.own {w w1 w2 : World} {a : Option Addr} {len cap g B : Nat} (D : Drew w a len cap g w1) (hb : Below B w1 w2) (hB : w.heap.size ≤ B) : Drew w a len cap g w2 := by
  obtain ⟨hl0, ⟨hlt, c0, ⟨i, hi, c1⟩, ⟨h, c2⟩, fz, ⟨xs, hx⟩⟩, hg⟩ := D
  have ne : ∀ o, w2.cell? ⟨g, o, none⟩ = w1.cell? ⟨g, o, none⟩ := fun o => hb.cell (p := ⟨g, o, none⟩) (by show g < B; omega)
  refine ⟨hl0, ⟨Nat.lt_of_lt_of_le hlt hb.size, by rw [ne]; exact c0, ⟨i, hi, by rw [ne]; exact c1⟩, ⟨h, by rw [ne]; exact c2⟩, fun o => (hb.frozen (p := ⟨g, o, none⟩) (by show g < B; omega)).trans (fz o), ⟨xs, FS.keepB hx hb (by omega)⟩⟩, ?_⟩
  exact ⟨hb.os.trans hg.os, hb.tape.trans hg.tape, hb.output.trans hg.output, Nat.le_trans hg.size hb.size, fun k hk hne => (hb.block k (by omega)).trans (hg.block k hk hne)⟩

set_option maxRecDepth 100000 in
set_option maxHeartbeats 3200000 in
theorem drawChanceAll_any (a : Option Addr) (len cap : Nat) (xs : List Int) (w : World) (S0 : Bs w w.heap.size a len xs) : Calls Try.prog 21 #[.slice a len cap] w fun e w' =>
    (∃ (sa : Option Addr) (sc : Nat) (ys : List Gs) (m : Int), e = .returned (.tuple #[.slice sa ys.length sc, .int .i64 m]) ∧ GsO w' w.heap.size sa ys.length sc ys ∧ ys.length ≤ 4 ∧ (-9223372036854775808 ≤ m ∧ m ≤ 9223372036854775807)) ∧ Below w.heap.size w w' := by
  go_enter Try.func21, Try.ntmps21
  go_wp2_with fail
  refine (new_any _ _ _ xs _ S0).mono ?_
  rintro e w1 ⟨rfl, C1, H0⟩
  have D0 := Drew.refl C1
  have hg := C1.lt
  have O0 : OwnF Gs.enc 4 32 (w1.alloc (.cells #[] 32)) w1.heap.size (.slice (some ⟨w1.heap.size, 0, none⟩) 0 0) [] := OwnF.made w1 _ (Nat.le_refl _)
  go_wp2_with fail
  refine (below_any _ _ _ _ _ _ (Drew.same D0 (by (repeat (first | (with_reducible exact D0) | (with_reducible refine Drew.setCell ?_ ?s1 _; case s1 => first | assumption | omega | (simp; omega)) | (with_reducible refine Drew.alloc ?_ _) | (with_reducible refine Drew.drewN ?_ _) | (with_reducible refine Drew.drew ?_)))))).mono ?_
  rintro e w2 ⟨⟨x, rfl, hx0, hx1⟩, D1⟩
  have O1 := O0.keepG D1.grown hg
  replace D0 := Drew.trans2 D0 (by (repeat (first | (with_reducible exact D0) | (with_reducible refine Drew.setCell ?_ ?s1 _; case s1 => first | assumption | omega | (simp; omega)) | (with_reducible refine Drew.alloc ?_ _) | (with_reducible refine Drew.drewN ?_ _) | (with_reducible refine Drew.drew ?_)))) D1
  clear D1 O0
  go_wp2
  go_loopw [5, 6] (fun v i wr => ∃ (k : Nat) (ys : List Gs), i = .int .i64 k ∧ ys.length + k ≤ 4 ∧ OwnF Gs.enc 4 32 wr w1.heap.size v ys ∧ (∀ y ∈ ys, y.ok) ∧ Drew w1 a len cap w.heap.size wr) (fun _ i _ => (intOf i).toNat)
  case atStart => exact ⟨x.toNat, [], by rw [Int.toNat_of_nonneg hx0], by simp; omega, O1, by simp, D0⟩
  case round =>
    obtain ⟨k, ys, rfl, hk, hown, hok, D0⟩ := hrel
    have hwz := D0.size
    by_cases hk0 : 0 < k
    · go_wp2_with fail
      refine (l17Any_any _ _ _ _ _ (Drew.same D0 (by (repeat (first | (with_reducible exact D0) | (with_reducible refine Drew.setCell ?_ ?s1 _; case s1 => first | assumption | omega | (simp; omega)) | (with_reducible refine Drew.alloc ?_ _) | (with_reducible refine Drew.drewN ?_ _) | (with_reducible refine Drew.drew ?_)))))).mono ?_
      rintro e w3 ⟨⟨f, t, l, p, rfl, hif, hit, hil, hip⟩, D1⟩
      replace hown := hown.keepG D1.grown hg
      replace D0 := Drew.trans2 D0 (by (repeat (first | (with_reducible exact D0) | (with_reducible refine Drew.setCell ?_ ?s1 _; case s1 => first | assumption | omega | (simp; omega)) | (with_reducible refine Drew.alloc ?_ _) | (with_reducible refine Drew.drewN ?_ _) | (with_reducible refine Drew.drew ?_)))) D1
      have hz3 := D0.size
      clear D1
      have hylen : ys.length ≤ 1099511627775 := by omega
      go_wp2_with (at_builtin; refine wpList_append_f infoGuess Try.underlying38 rfl (by decide) (by decide) Gs.enc_len Gs.one rfl _ _ rfl w1.heap.size _ ys rfl (hown.alloc _) _ ⟨f, t, l, p⟩ rfl (new_cells _ _ _ rfl) hylen (Nat.le_trans hz3 (size_alloc_le _ _)) ?_)
      intro v' w4 hown4 hb4 _
      have D4 := (D0.alloc (.cells #[.int .i64 f, .int .i64 t, .int .i64 l, .int .i64 p] 32)).own hb4 (Nat.le_refl _)
      go_wp2
      go_roundw
      case rel => exact ⟨k - 1, ys ++ [⟨f, t, l, p⟩], by go_num, by simp; omega, hown4, fun y hy => by
        rcases List.mem_append.1 hy with hy | hy
        · exact hok y hy
        · simp at hy; subst hy; exact ⟨hif, hit, hil, hip⟩, D4⟩
      case measure => simp [intOf]; omega
    · obtain rfl : k = 0 := by omega
      obtain ⟨sa, sc, rfl, ho⟩ := hown.of hok
      go_wp2_with fail
      refine (l17Amt_any _ _ _ _ _ (Drew.same D0 (by (repeat (first | (with_reducible exact D0) | (with_reducible refine Drew.setCell ?_ ?s1 _; case s1 => first | assumption | omega | (simp; omega)) | (with_reducible refine Drew.alloc ?_ _) | (with_reducible refine Drew.drewN ?_ _) | (with_reducible refine Drew.drew ?_)))))).mono ?_
      rintro e w3 ⟨⟨m, rfl, hm0, hm1⟩, D1⟩
      have ho := ho.keepG D1.grown hg
      replace D0 := Drew.trans2 D0 (by (repeat (first | (with_reducible exact D0) | (with_reducible refine Drew.setCell ?_ ?s1 _; case s1 => first | assumption | omega | (simp; omega)) | (with_reducible refine Drew.alloc ?_ _) | (with_reducible refine Drew.drewN ?_ _) | (with_reducible refine Drew.drew ?_)))) D1
      go_wp2
      go_ret2
      exact ⟨⟨sa, sc, ys, m, rfl, ho.le H0.size, by omega, hm0, hm1⟩, Drew.below H0 D0⟩

end Go.Proofs.Ytegnlijgjcfmlaa
