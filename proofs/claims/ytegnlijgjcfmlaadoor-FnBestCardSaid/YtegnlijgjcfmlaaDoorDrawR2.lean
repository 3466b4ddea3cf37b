/- What is drawn: roads of any kind. -/
import Derived.Test.YtegnlijgjcfmlaaDoorDrawR
namespace Go.Proofs.YtegnlijgjcfmlaaDoor
open Go.RowKit
set_option linter.unusedVariables false
set_option linter.unusedSimpArgs false

theorem RdO.set {w : World} {B g len cap : Nat} {y : Rd} {ys : List Rd} (h : RdO w B (some ⟨g, 0, none⟩) len cap (y :: ys)) (y' : Rd) (hok : y'.ok) (j : Nat) (u : Value) (he : y'.enc = y.enc.set j u) (hj : j < 5) : RdO (w.setCell ⟨g, j, none⟩ u) B (some ⟨g, 0, none⟩) len cap (y' :: ys) := by
  refine ⟨?_, h.2.1, ?_⟩
  · have h1 := (h.1.stored j u).1
    rw [List.flatMap_cons, List.set_append_left _ _ (by rw [Rd.enc_len]; exact hj), ← he] at h1
    exact h1
  · intro x hx
    rcases List.mem_cons.1 hx with rfl | hx
    · exact hok
    · exact h.2.2 x (List.mem_cons_of_mem _ hx)
theorem Rd.one (x : Rd) : ∀ u ∈ x.enc, u.oneCell' = true := by
  intro u hu
  simp [Rd.enc] at hu
  rcases hu with rfl | rfl | rfl | rfl | rfl <;> rfl

set_option maxRecDepth 100000 in
set_option maxHeartbeats 3200000 in
theorem l14Any_any (a : Option Addr) (len cap g : Nat) (w : World) (C0 : Cur w a len cap g) : Calls Tryd.prog 35 #[.pointer (some ⟨g, 0, none⟩)] w fun e w' =>
    (∃ (sa : Option Addr) (ln c : Nat) (ys : List Rd), e = .returned (.slice sa ln c) ∧ RdO w' w.heap.size sa ln c ys ∧ ln ≤ 12) ∧ Drew w a len cap g w' := by
  have D0 := Drew.refl C0
  have hg := C0.lt
  go_enter Tryd.func35, Tryd.ntmps35
  go_wp2_with fail
  refine (l14Roads_any _ _ _ _ _ (Drew.same D0 (by (repeat (first | (with_reducible exact D0) | (with_reducible refine Drew.setCell ?_ ?s1 _; case s1 => first | assumption | omega | (simp; omega)) | (with_reducible refine Drew.alloc ?_ _) | (with_reducible refine Drew.drewN ?_ _) | (with_reducible refine Drew.drew ?_)))))).mono ?_
  rintro e w1 ⟨⟨gl, cl, ys, rfl, O0, hys⟩, D1⟩
  replace D0 := D0.trans D1
  clear D1
  go_wp2_with fail
  refine (below_any _ _ _ _ _ _ (Drew.same D0 (by (repeat (first | (with_reducible exact D0) | (with_reducible refine Drew.setCell ?_ ?s1 _; case s1 => first | assumption | omega | (simp; omega)) | (with_reducible refine Drew.alloc ?_ _) | (with_reducible refine Drew.drewN ?_ _) | (with_reducible refine Drew.drew ?_)))))).mono ?_
  rintro e w2 ⟨⟨x, rfl, hx0, hx1⟩, D1⟩
  replace O0 := O0.keepG D1.grown hg
  replace D0 := D0.trans D1
  clear D1
  cases ys with
  | nil =>
    go_wp2
    go_ret
    exact ⟨⟨_, _, cl, [], rfl, O0, by simp⟩, D0⟩
  | cons y ys =>
    obtain ⟨yf, yt, yb, yp, yc⟩ := y
    obtain ⟨if_, it, ib, ip, ic⟩ := O0.2.2 _ List.mem_cons_self
    simp only at if_ it ib ip ic
    have hlen : (List.length (⟨yf, yt, yb, yp, yc⟩ :: ys) : Int) = (ys.length : Int) + 1 := by simp
    have hq : (((⟨yf, yt, yb, yp, yc⟩ :: ys : List Rd).length : Int) == 0) = false := by simp; omega
    have hq2 : 0 < (⟨yf, yt, yb, yp, yc⟩ :: ys : List Rd).length := by simp
    obtain ⟨ln, hln⟩ : ∃ ln, ln = (⟨yf, yt, yb, yp, yc⟩ :: ys : List Rd).length := ⟨_, rfl⟩
    rw [← hln] at O0 hys hq hq2
    simp only [← hln]
    have Hln := Lib.hid hln
    clear hln hlen
    by_cases h0 : x = 0
    · subst h0
      go_wp2_with fail
      refine (raw_any _ _ _ _ _ (Drew.same D0 (by (repeat (first | (with_reducible exact D0) | (with_reducible refine Drew.setCell ?_ ?s1 _; case s1 => first | assumption | omega | (simp; omega)) | (with_reducible refine Drew.alloc ?_ _) | (with_reducible refine Drew.drewN ?_ _) | (with_reducible refine Drew.drew ?_)))))).mono ?_
      rintro e w3 ⟨⟨r, rfl, hr0, hr1⟩, D1⟩
      have O3 := O0.keepG D1.grown hg
      have D3 := D0.trans D1
      have hc := OF.row O3 0 _ rfl 2 _ rfl
      simp only [Nat.zero_mul, Nat.zero_add] at hc
      have hf := O3.1.frozenAt 2
      go_wp2
      go_ret
      exact ⟨⟨_, _, _, ⟨yf, yt, r, yp, yc⟩ :: ys, rfl, RdO.set O3 ⟨yf, yt, r, yp, yc⟩ ⟨if_, it, ⟨hr0, hr1⟩, ip, ic⟩ 2 (.int .i64 r) rfl (by decide), by omega⟩, D3.setCell (O3.1.lt gl rfl).1 _⟩
    · have e0 : (x == 0) = false := by simp [h0]
      by_cases h1 : x = 1
      · subst h1
        go_wp2_with fail
        refine (raw_any _ _ _ _ _ (Drew.same D0 (by (repeat (first | (with_reducible exact D0) | (with_reducible refine Drew.setCell ?_ ?s1 _; case s1 => first | assumption | omega | (simp; omega)) | (with_reducible refine Drew.alloc ?_ _) | (with_reducible refine Drew.drewN ?_ _) | (with_reducible refine Drew.drew ?_)))))).mono ?_
        rintro e w3 ⟨⟨r, rfl, hr0, hr1⟩, D1⟩
        have O3 := O0.keepG D1.grown hg
        have D3 := D0.trans D1
        have hc := OF.row O3 0 _ rfl 3 _ rfl
        simp only [Nat.zero_mul, Nat.zero_add] at hc
        have hf := O3.1.frozenAt 3
        go_wp2
        go_ret
        exact ⟨⟨_, _, _, ⟨yf, yt, yb, r, yc⟩ :: ys, rfl, RdO.set O3 ⟨yf, yt, yb, r, yc⟩ ⟨if_, it, ib, ⟨hr0, hr1⟩, ic⟩ 3 (.int .i64 r) rfl (by decide), by omega⟩, D3.setCell (O3.1.lt gl rfl).1 _⟩
      · have e1 : (x == 1) = false := by simp [h1]
        by_cases h2 : x = 2
        · subst h2
          go_wp2_with fail
          refine (raw_any _ _ _ _ _ (Drew.same D0 (by (repeat (first | (with_reducible exact D0) | (with_reducible refine Drew.setCell ?_ ?s1 _; case s1 => first | assumption | omega | (simp; omega)) | (with_reducible refine Drew.alloc ?_ _) | (with_reducible refine Drew.drewN ?_ _) | (with_reducible refine Drew.drew ?_)))))).mono ?_
          rintro e w3 ⟨⟨r, rfl, hr0, hr1⟩, D1⟩
          have O3 := O0.keepG D1.grown hg
          have D3 := D0.trans D1
          have hc := OF.row O3 0 _ rfl 4 _ rfl
          simp only [Nat.zero_mul, Nat.zero_add] at hc
          have hf := O3.1.frozenAt 4
          go_wp2
          go_ret
          exact ⟨⟨_, _, _, ⟨yf, yt, yb, yp, r⟩ :: ys, rfl, RdO.set O3 ⟨yf, yt, yb, yp, r⟩ ⟨if_, it, ib, ip, ⟨hr0, hr1⟩⟩ 4 (.int .i64 r) rfl (by decide), by omega⟩, D3.setCell (O3.1.lt gl rfl).1 _⟩
        · have e2 : (x == 2) = false := by simp [h2]
          by_cases h3 : x = 3
          · subst h3
            have c0 := OF.row O0 0 _ rfl 0 _ rfl
            have c1 := OF.row O0 0 _ rfl 1 _ rfl
            have c2 := OF.row O0 0 _ rfl 2 _ rfl
            have c3 := OF.row O0 0 _ rfl 3 _ rfl
            have c4 := OF.row O0 0 _ rfl 4 _ rfl
            simp only [Nat.zero_mul, Nat.zero_add] at c0 c1 c2 c3 c4
            have hB : w.heap.size ≤ w2.heap.size := D0.size
            have hl9 : (⟨yf, yt, yb, yp, yc⟩ :: ys : List Rd).length ≤ 1099511627775 := by rw [← Hln.out]; omega
            go_wp2_with (at_builtin; refine wpList_append_f infoRoad Tryd.underlying23 rfl (by decide) (by decide) Rd.enc_len Rd.one rfl _ _ rfl w.heap.size _ _ rfl ((OF.own O0).alloc _) _ ⟨yf, yt, yb, yp, yc⟩ rfl (new_cells _ _ _ rfl) hl9 (Nat.le_trans hB (size_alloc_le _ _)) ?_)
            intro v' w4 hown4 hb4 _
            have D4 := (D0.alloc (.cells #[.int .i64 yf, .int .i64 yt, .int .i64 yb, .int .i64 yp, .int .i64 yc] 32)).own hb4 (Nat.le_refl _)
            have hok4 : ∀ z ∈ (⟨yf, yt, yb, yp, yc⟩ :: ys) ++ [(⟨yf, yt, yb, yp, yc⟩ : Rd)], z.ok := by
              intro z hz
              rcases List.mem_append.1 hz with hz | hz
              · exact O0.2.2 z hz
              · simp at hz; subst hz; exact ⟨if_, it, ib, ip, ic⟩
            obtain ⟨gn, cn, rfl, o4⟩ := OwnF.addr hown4 hok4 (by simp)
            go_wp2
            go_ret
            exact ⟨⟨_, _, _, _, rfl, o4, by have := Hln.out; simp at this ⊢; omega⟩, D4⟩
          · have e3 : (x == 3) = false := by simp [h3]
            by_cases h4 : x = 4
            · subst h4
              have hc := OF.row O0 0 _ rfl 1 _ rfl
              have hc0 := OF.row O0 0 _ rfl 0 _ rfl
              simp only [Nat.zero_mul, Nat.zero_add] at hc hc0
              have hf := O0.1.frozenAt 1
              go_wp2
              go_ret
              exact ⟨⟨_, _, _, ⟨yf, yf, yb, yp, yc⟩ :: ys, rfl, RdO.set O0 ⟨yf, yf, yb, yp, yc⟩ ⟨if_, if_, ib, ip, ic⟩ 1 (.int .i64 yf) rfl (by decide), by omega⟩, D0.setCell (O0.1.lt gl rfl).1 _⟩
            · have e4 : (x == 4) = false := by simp [h4]
              go_wp2
              go_ret
              exact ⟨⟨_, _, _, _, rfl, O0, by omega⟩, D0⟩

end Go.Proofs.YtegnlijgjcfmlaaDoor
