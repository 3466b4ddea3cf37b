/- What is drawn: roads. -/
import Derived.Test.YtegnlijgjcfmlaaDoorDraw
import Derived.Test.YtegnlijgjcfmlaaDoorOwnA
import Derived.Test.YtegnlijgjcfmlaaDoorSRoad
import Derived.Test.YtegnlijgjcfmlaaDoorRoad
import Derived.Deep.DeepCutAuto
import Derived.Deep.RegionWith
import Derived.Deep.RegionLaw
import Derived.Deep.AppendLies
namespace Go.Proofs.YtegnlijgjcfmlaaDoor
open Go.RowKit
set_option linter.unusedVariables false
set_option linter.unusedSimpArgs false

section
variable {α : Type} {enc : α → List Value} {sz : Nat} {ok : α → Prop} {E : TypeId} {w w' : World} {B : Nat} {v : Value} {xs : List α}
theorem OwnF.addr (h : OwnF enc sz E w B v xs) (hm : ∀ x ∈ xs, ok x) (hp : 0 < xs.length) : ∃ g c, v = .slice (some ⟨g, 0, none⟩) xs.length c ∧ OF enc sz ok E w B (some ⟨g, 0, none⟩) xs.length c xs := by
  have h2 := h.2
  rcases h2 with ⟨_, h0⟩ | ⟨g, c, cur, hv, _⟩
  · omega
  · subst hv; exact ⟨_, _, rfl, h, rfl, hm⟩
theorem OF.setCell {g b o : Nat} {len cap : Nat} (h : OF enc sz ok E w B (some ⟨g, 0, none⟩) len cap xs) (hne : g ≠ b) (u : Value) : OF enc sz ok E (w.setCell ⟨b, o, none⟩ u) B (some ⟨g, 0, none⟩) len cap xs :=
  ⟨h.1.kept (grown_setCell w b o u) (.inr (by simp [Value.ownBlock]; exact hne)), h.2⟩
theorem OwnF.setCell {b o : Nat} (h : OwnF enc sz E w B v xs) (hb : b < B) (u : Value) : OwnF enc sz E (w.setCell ⟨b, o, none⟩ u) B v xs := h.keepG (grown_setCell w b o u) hb
end
theorem OwnF.made' {α : Type} {enc : α → List Value} {sz : Nat} {E : TypeId} (w : World) (B : Nat) (hb : B ≤ w.heap.size) (g : Nat) (hg : w.heap.size = g) : OwnF enc sz E (w.alloc (.cells #[] E)) B (.slice (some ⟨g, 0, none⟩) 0 0) ([] : List α) := by
  subst hg; exact OwnF.made w B hb
theorem step_append_rd {ops : Array Oper} {o : Oper} {a : Act} {K : Act → World → Prop} {Q : Exit → Act → World → Prop} {E : Prop} {w : World} (hgd : o.guard = none) (s x : Operand)
    (ho : o.op = .call { callee := .builtin .append, args := #[s, x], argTypes := #[23, 23] }) (B : Nat) (v : Value) (xs : List Rd) (hs : a.eval s = v) (hown : OwnF Rd.enc 5 32 w B v xs)
    (g n c : Nat) (ys : List Rd) (hx : a.eval x = .slice (some ⟨g, 0, none⟩) n c) (hn : ys.length = n) (hy : ∀ (i : Nat) (y : Rd), ys[i]? = some y → ∀ j u, y.enc[j]? = some u → w.cell? ⟨g, i * 5 + j, none⟩ = some u) (hlen : xs.length ≤ 1099511627) (hlen2 : n ≤ 1099511627) (hB : B ≤ w.heap.size)
    (h : ∀ v' w', OwnF Rd.enc 5 32 w' B v' (xs ++ ys) → Below B w w' → w.grownBy w' v.ownBlock → K (a.put o.dst v') w') :
    if Region.wanted o (yielded ops a.tmps) = true then Oper.wp Tryd.prog o a w K Q else E := by
  have hw : Region.wanted o (yielded ops a.tmps) = true := by simp [Region.wanted, hgd]
  rw [if_pos hw]
  obtain ⟨i0, hi, hz0, hz1, hz2⟩ := info_parts infoRoad
  refine wp_append_own w s x 23 ho B 32 i0 (.agg #[.int .i64 0, .int .i64 0, .int .i64 0, .int .i64 0, .int .i64 0]) 5 40 Tryd.underlying23 hi hz0 hz1 hz2 rfl (by decide) v xs.length (xs.flatMap Rd.enc) hs hown ⟨g, 0, none⟩ n c (ys.flatMap Rd.enc) hx (by rw [flatMap_len Rd.enc_len, hn]) ?_ ?_ ?_ ?_ hB ?_
  · intro j u hj
    have hlt : j < ys.length * 5 := by have := (List.getElem?_eq_some_iff.1 hj).1; rwa [flatMap_len Rd.enc_len] at this
    have hi : j / 5 < ys.length := by omega
    have hy1 : ys[j / 5]? = some (ys[j / 5]'hi) := List.getElem?_eq_getElem hi
    have hel : (ys[j / 5]'hi).enc[j % 5]? = some ((ys[j / 5]'hi).enc[j % 5]'(by rw [Rd.enc_len]; omega)) := List.getElem?_eq_getElem _
    have h1 := flatMap_get Rd.enc_len ys (j / 5) _ (j % 5) _ hy1 hel
    rw [show j / 5 * 5 + j % 5 = j by omega, hj] at h1
    have h2 := hy _ _ hy1 _ _ hel
    rw [show j / 5 * 5 + j % 5 = j by omega, ← h1] at h2
    unfold Addr.add
    split
    · rename_i h0; subst h0; exact h2
    · simpa using h2
  · intro u hu
    obtain ⟨y, _, hy2⟩ := List.mem_flatMap.1 hu
    simp [Rd.enc] at hy2
    rcases hy2 with rfl | rfl | rfl | rfl | rfl <;> rfl
  · unfold maxLen; omega
  · omega
  · intro v' w' h1 h2 _
    refine h v' w' ?_ (grown_below hown h2 hB) h2
    unfold OwnF
    rw [← hn] at h1
    simpa using h1
theorem row_drew {w : World} {g : Nat} {ys : List Rd} (h : ∀ (i : Nat) (z : Rd), ys[i]? = some z → ∀ j u, z.enc[j]? = some u → w.cell? ⟨g, i * 5 + j, none⟩ = some u) : ∀ (i : Nat) (z : Rd), ys[i]? = some z → ∀ j u, z.enc[j]? = some u → w.drew.cell? ⟨g, i * 5 + j, none⟩ = some u := h
theorem row_grow {w w' : World} {g : Nat} {row : Option Nat} {ys : List Rd} (hg : w.grownBy w' row) (hne : some g ≠ row) (h : ∀ (i : Nat) (z : Rd), ys[i]? = some z → ∀ j u, z.enc[j]? = some u → w.cell? ⟨g, i * 5 + j, none⟩ = some u) : ∀ (i : Nat) (z : Rd), ys[i]? = some z → ∀ j u, z.enc[j]? = some u → w'.cell? ⟨g, i * 5 + j, none⟩ = some u :=
  fun i z hz j u hu => hg.cell (h i z hz j u hu) hne
theorem OF.row {w : World} {B g len cap : Nat} {xs : List Rd} (h : RdO w B (some ⟨g, 0, none⟩) len cap xs) : ∀ (i : Nat) (y : Rd), xs[i]? = some y → ∀ j u, y.enc[j]? = some u → w.cell? ⟨g, i * 5 + j, none⟩ = some u := by
  intro i y hy j u hu
  obtain ⟨b, off, e, hlt, hc⟩ := (OF.fs Rd.enc_len h).2.2.2 i y hy
  injection e with e
  injection e with e1 e2
  subst e1
  subst e2
  have := hc j u hu
  rwa [Nat.zero_add] at this
theorem one_row (w : World) (cs : Array Value) (t : TypeId) (y : Rd) (h : cs.toList = y.enc) : ∀ (i : Nat) (z : Rd), [y][i]? = some z → ∀ j u, z.enc[j]? = some u → (w.alloc (.cells cs t)).cell? ⟨w.heap.size, i * 5 + j, none⟩ = some u := by
  intro i z hz j u hu
  cases i with
  | succ i => simp at hz
  | zero =>
    simp at hz
    subst hz
    have := new_cells w cs t h j u hu
    simpa using this
theorem one_row' (w : World) (cs : Array Value) (t : TypeId) (y : Rd) (h : cs.toList = y.enc) (g : Nat) (hg : w.heap.size = g) : ∀ (i : Nat) (z : Rd), [y][i]? = some z → ∀ j u, z.enc[j]? = some u → (w.alloc (.cells cs t)).cell? ⟨g, i * 5 + j, none⟩ = some u := by
  subst hg; exact one_row w cs t y h
theorem row_keep {w w' : World} {g : Nat} {ys : List Rd} (hb : Below w.heap.size w w') (h : ∀ (i : Nat) (z : Rd), ys[i]? = some z → ∀ j u, z.enc[j]? = some u → w.cell? ⟨g, i * 5 + j, none⟩ = some u) : ∀ (i : Nat) (z : Rd), ys[i]? = some z → ∀ j u, z.enc[j]? = some u → w'.cell? ⟨g, i * 5 + j, none⟩ = some u :=
  fun i z hz j u hu => cell_keep hb (h i z hz j u hu)

set_option maxRecDepth 100000 in
set_option maxHeartbeats 6400000 in
theorem l14Roads_any (a : Option Addr) (len cap g : Nat) (w : World) (C0 : Cur w a len cap g) : Calls Tryd.prog 75 #[.pointer (some ⟨g, 0, none⟩)] w fun e w' =>
    (∃ (gl c : Nat) (ys : List Rd), e = .returned (.slice (some ⟨gl, 0, none⟩) ys.length c) ∧ RdO w' w.heap.size (some ⟨gl, 0, none⟩) ys.length c ys ∧ ys.length ≤ 11) ∧ Drew w a len cap g w' := by
  have D0 := Drew.refl C0
  have hg := C0.lt
  have O0 : RdO (w.alloc (.cells #[] 32)) w.heap.size (some ⟨w.heap.size, 0, none⟩) 0 0 [] := ⟨OwnF.made (enc := Rd.enc) w _ (Nat.le_refl _), rfl, by simp⟩
  go_enter Tryd.func75, Tryd.ntmps75
  go_wp2_with fail
  refine (below_any _ _ _ _ _ _ (Drew.same D0 (by (repeat (first | (with_reducible exact D0) | (with_reducible refine Drew.setCell ?_ ?s1 _; case s1 => first | assumption | omega | (simp; omega)) | (with_reducible refine Drew.alloc ?_ _) | (with_reducible refine Drew.drewN ?_ _) | (with_reducible refine Drew.drew ?_)))))).mono ?_
  rintro e w1 ⟨⟨x, rfl, hx0, hx1⟩, D1⟩; replace O0 := (OF.keep O0 (by first | exact Below.refl _ _ | exact below_alloc (Below.refl _ _) _ | exact Below.drew (below_alloc (Below.refl _ _) _))).keepG D1.grown hg; replace D0 := Drew.trans2 D0 (by (repeat (first | (with_reducible exact D0) | (with_reducible refine Drew.setCell ?_ ?s1 _; case s1 => first | assumption | omega | (simp; omega)) | (with_reducible refine Drew.alloc ?_ _) | (with_reducible refine Drew.drewN ?_ _) | (with_reducible refine Drew.drew ?_)))) D1; have hzw1 := D0.size; have hsw1 := D1.size; clear D1
  go_wp2
  go_loopw [3, 4, 5, 6] (fun v i _ _ wr => ∃ (k gl c : Nat) (ys : List Rd), i = .int .i64 k ∧ ys.length + k ≤ 11 ∧ v = .slice (some ⟨gl, 0, none⟩) ys.length c ∧ RdO wr w.heap.size (some ⟨gl, 0, none⟩) ys.length c ys ∧ Drew w a len cap g wr) (fun _ i _ _ _ => (intOf i).toNat)
  case atStart => exact ⟨x.toNat, w.heap.size, 0, [], by rw [Int.toNat_of_nonneg hx0], by simp; omega, rfl, O0, D0⟩
  case round =>
    obtain ⟨k, gl, cl, ys, rfl, hk, rfl, O0, D0⟩ := hrel
    clear hzw1 hsw1
    have hwz := D0.size
    by_cases hk0 : 0 < k
    · go_wp2_with fail
      refine (below_any _ _ _ _ _ _ (Drew.same D0 (by (repeat (first | (with_reducible exact D0) | (with_reducible refine Drew.setCell ?_ ?s1 _; case s1 => first | assumption | omega | (simp; omega)) | (with_reducible refine Drew.alloc ?_ _) | (with_reducible refine Drew.drewN ?_ _) | (with_reducible refine Drew.drew ?_)))))).mono ?_
      rintro e w2 ⟨⟨f, rfl, hf0, hf1⟩, D1⟩; replace O0 := (OF.keep O0 (by first | exact Below.refl _ _ | exact below_alloc (Below.refl _ _) _ | exact Below.drew (below_alloc (Below.refl _ _) _))).keepG D1.grown hg; replace D0 := Drew.trans2 D0 (by (repeat (first | (with_reducible exact D0) | (with_reducible refine Drew.setCell ?_ ?s1 _; case s1 => first | assumption | omega | (simp; omega)) | (with_reducible refine Drew.alloc ?_ _) | (with_reducible refine Drew.drewN ?_ _) | (with_reducible refine Drew.drew ?_)))) D1; have hzw2 := D0.size; have hsw2 := D1.size; clear D1
      go_wp2_with fail
      refine (below_any _ _ _ _ _ _ (Drew.same D0 (by (repeat (first | (with_reducible exact D0) | (with_reducible refine Drew.setCell ?_ ?s1 _; case s1 => first | assumption | omega | (simp; omega)) | (with_reducible refine Drew.alloc ?_ _) | (with_reducible refine Drew.drewN ?_ _) | (with_reducible refine Drew.drew ?_)))))).mono ?_
      rintro e w3 ⟨⟨b, rfl, hb0, hb1⟩, D1⟩; replace O0 := (OF.keep O0 (by first | exact Below.refl _ _ | exact below_alloc (Below.refl _ _) _ | exact Below.drew (below_alloc (Below.refl _ _) _))).keepG D1.grown hg; replace D0 := Drew.trans2 D0 (by (repeat (first | (with_reducible exact D0) | (with_reducible refine Drew.setCell ?_ ?s1 _; case s1 => first | assumption | omega | (simp; omega)) | (with_reducible refine Drew.alloc ?_ _) | (with_reducible refine Drew.drewN ?_ _) | (with_reducible refine Drew.drew ?_)))) D1; have hzw3 := D0.size; have hsw3 := D1.size; clear D1
      go_wp2_with fail
      refine (below_any _ _ _ _ _ _ (Drew.same D0 (by (repeat (first | (with_reducible exact D0) | (with_reducible refine Drew.setCell ?_ ?s1 _; case s1 => first | assumption | omega | (simp; omega)) | (with_reducible refine Drew.alloc ?_ _) | (with_reducible refine Drew.drewN ?_ _) | (with_reducible refine Drew.drew ?_)))))).mono ?_
      rintro e w4 ⟨⟨p, rfl, hp0, hp1⟩, D1⟩; replace O0 := (OF.keep O0 (by first | exact Below.refl _ _ | exact below_alloc (Below.refl _ _) _ | exact Below.drew (below_alloc (Below.refl _ _) _))).keepG D1.grown hg; replace D0 := Drew.trans2 D0 (by (repeat (first | (with_reducible exact D0) | (with_reducible refine Drew.setCell ?_ ?s1 _; case s1 => first | assumption | omega | (simp; omega)) | (with_reducible refine Drew.alloc ?_ _) | (with_reducible refine Drew.drewN ?_ _) | (with_reducible refine Drew.drew ?_)))) D1; have hzw4 := D0.size; have hsw4 := D1.size; clear D1
      go_wp2_with fail
      refine (below_any _ _ _ _ _ _ (Drew.same D0 (by (repeat (first | (with_reducible exact D0) | (with_reducible refine Drew.setCell ?_ ?s1 _; case s1 => first | assumption | omega | (simp; omega)) | (with_reducible refine Drew.alloc ?_ _) | (with_reducible refine Drew.drewN ?_ _) | (with_reducible refine Drew.drew ?_)))))).mono ?_
      rintro e w5 ⟨⟨c, rfl, hc0, hc1⟩, D1⟩; replace O0 := (OF.keep O0 (by first | exact Below.refl _ _ | exact below_alloc (Below.refl _ _) _ | exact Below.drew (below_alloc (Below.refl _ _) _))).keepG D1.grown hg; replace D0 := Drew.trans2 D0 (by (repeat (first | (with_reducible exact D0) | (with_reducible refine Drew.setCell ?_ ?s1 _; case s1 => first | assumption | omega | (simp; omega)) | (with_reducible refine Drew.alloc ?_ _) | (with_reducible refine Drew.drewN ?_ _) | (with_reducible refine Drew.drew ?_)))) D1; have hzw5 := D0.size; have hsw5 := D1.size; clear D1
      have hgl := OF.lt O0 _ rfl
      simp only at hgl
      go_upto_region 6 with fail
      go_region_with (go_at_call 36; refine (below_any _ _ _ _ _ _ (Drew.same D0 (by (repeat (first | (with_reducible exact D0) | (with_reducible refine Drew.setCell ?_ ?s1 _; case s1 => first | assumption | omega | (simp; omega)) | (with_reducible refine Drew.alloc ?_ _) | (with_reducible refine Drew.drewN ?_ _) | (with_reducible refine Drew.drew ?_)))))).mono ?_; rintro e w6 ⟨⟨q, rfl, hq0, hq1⟩, D1⟩; have ec : ∀ o, w6.cell? ⟨w5.heap.size, o, none⟩ = _ := (fun o => (Drew.rules D1).1 w5.heap.size o (by simp) (by omega)); have ef : ∀ o, w6.frozen? ⟨w5.heap.size, o, none⟩ = _ := (fun o => (Drew.rules D1).2.1 w5.heap.size o (by simp) (by omega)); have O6 := (OF.keep O0 (Below.drew (below_alloc (Below.refl _ _) _))).keepG D1.grown hg; have D6 := Drew.trans2 D0 (by (repeat (first | (with_reducible exact D0) | (with_reducible refine Drew.setCell ?_ ?s1 _; case s1 => first | assumption | omega | (simp; omega)) | (with_reducible refine Drew.alloc ?_ _) | (with_reducible refine Drew.drewN ?_ _) | (with_reducible refine Drew.drew ?_)))) D1; have hz6 := D1.size; clear D1)
      all_goals
        go_upto_region 7 with fail
        have k0 : w6.cell? ⟨w5.heap.size, 0, none⟩ = some (.int .i64 (1 + f)) := by rw [ec]; simp [go_sem]
        have k1 : w6.cell? ⟨w5.heap.size, 1, none⟩ = some (.int .i64 0) := by rw [ec]; simp [go_sem]
        have k2 : w6.cell? ⟨w5.heap.size, 2, none⟩ = some (.int .i64 b) := by rw [ec]; simp [go_sem]
        have k3 : w6.cell? ⟨w5.heap.size, 3, none⟩ = some (.int .i64 p) := by rw [ec]; simp [go_sem]
        have k4 : w6.cell? ⟨w5.heap.size, 4, none⟩ = some (.int .i64 (500 + c)) := by rw [ec]; simp [go_sem]
        have z6 : w5.heap.size < w6.heap.size := by simp at hz6; omega
        have hT := wrap_within .i64 (1 + (IntKind.i64.wrap (1 + f + q)).tmod 5)
        generalize IntKind.i64.wrap (1 + (IntKind.i64.wrap (1 + f + q)).tmod 5) = T at hT ⊢
        have OX0 := OF.setCell (o := 1) O6 (show gl ≠ w5.heap.size by omega) (.int .i64 T)
        have DX0 := D6.setCell (o := 1) hzw5 (.int .i64 T)
        have x0' := set_ne (o' := 1) (v := .int .i64 T) k0 (by omega)
        have x1' := set_eq (v := .int .i64 T) k1
        have x2' := set_ne (o' := 1) (v := .int .i64 T) k2 (by omega)
        have x3' := set_ne (o' := 1) (v := .int .i64 T) k3 (by omega)
        have x4' := set_ne (o' := 1) (v := .int .i64 T) k4 (by omega)
        have sX' : w5.heap.size < (w6.setCell ⟨w5.heap.size, 1, none⟩ (.int .i64 T)).heap.size := by simpa [World.setCell] using z6
        clear ec ef k0 k1 k2 k3 k4 O6 D6 D0 O0
        generalize w6.setCell ⟨w5.heap.size, 1, none⟩ (.int .i64 T) = X at OX0 DX0 x0' x1' x2' x3' x4' sX' ⊢
        have hBX : w.heap.size ≤ X.heap.size := DX0.size
        go_region_law (first
          | (refine step_append_rd rfl _ _ rfl X.heap.size (.slice (some ⟨X.heap.size, 0, none⟩) 0 0) [] rfl (by first | exact OwnF.made _ _ (by first | (simp; done) | (simp; omega)) | exact OwnF.alloc (OwnF.made _ _ (by first | (simp; done) | (simp; omega))) _) gl ys.length cl ys rfl rfl (row_keep (by (repeat (first | (with_reducible exact Below.refl _ _) | (with_reducible assumption) | (with_reducible refine Below.setCell ?_ ?side _; case side => first | (with_reducible exact Nat.le_refl _) | (simp; done) | (simp only [World.size_alloc, World.size_setCell, World.size_drew, World.heap_drewN] at *; omega)) | (with_reducible refine below_alloc ?_ _) | (with_reducible refine Below.drew ?_) | (with_reducible refine below_drewN ?_) | (with_reducible refine below_via (by assumption) ?_)))) (OF.row OX0)) (by simp) (by omega) (by first | (simp; done) | (simp; omega)) ?_; intro v7 w7 hown7 hb7 hg7; have b7 : Below X.heap.size X w7 := Below.trans (by (repeat (first | (with_reducible exact Below.refl _ _) | (with_reducible assumption) | (with_reducible refine Below.setCell ?_ ?side _; case side => first | (with_reducible exact Nat.le_refl _) | (simp; done) | (simp only [World.size_alloc, World.size_setCell, World.size_drew, World.heap_drewN] at *; omega)) | (with_reducible refine below_alloc ?_ _) | (with_reducible refine Below.drew ?_) | (with_reducible refine below_drewN ?_) | (with_reducible refine below_via (by assumption) ?_)))) hb7; have y0 := cell_keep b7 x0'; have y1 := cell_keep b7 x1'; have y2 := cell_keep b7 x2'; have y3 := cell_keep b7 x3'; have y4 := cell_keep b7 x4'; (try have R7 := row_grow hg7 (g := X.heap.size + 1) (by simp [Value.ownBlock]) (by first | exact one_row' _ _ _ ⟨1 + f, T, b, p, 500 + c⟩ rfl _ (by simp) | exact row_drew (one_row' _ _ _ ⟨1 + f, T, b, p, 500 + c⟩ rfl _ (by simp)) | exact row_drew (row_drew (one_row' _ _ _ ⟨1 + f, T, b, p, 500 + c⟩ rfl _ (by simp))))))
          | (refine step_append_rd rfl _ _ rfl X.heap.size (.slice (some ⟨X.heap.size + 1, 0, none⟩) 0 0) [] rfl (OwnF.made' _ _ (by first | (simp; done) | (simp; omega)) _ (by simp)) gl ys.length cl ys rfl rfl (row_keep (by (repeat (first | (with_reducible exact Below.refl _ _) | (with_reducible assumption) | (with_reducible refine Below.setCell ?_ ?side _; case side => first | (with_reducible exact Nat.le_refl _) | (simp; done) | (simp only [World.size_alloc, World.size_setCell, World.size_drew, World.heap_drewN] at *; omega)) | (with_reducible refine below_alloc ?_ _) | (with_reducible refine Below.drew ?_) | (with_reducible refine below_drewN ?_) | (with_reducible refine below_via (by assumption) ?_)))) (OF.row OX0)) (by simp) (by omega) (by first | (simp; done) | (simp; omega)) ?_; intro v7 w7 hown7 hb7 hg7; have b7 : Below X.heap.size X w7 := Below.trans (by (repeat (first | (with_reducible exact Below.refl _ _) | (with_reducible assumption) | (with_reducible refine Below.setCell ?_ ?side _; case side => first | (with_reducible exact Nat.le_refl _) | (simp; done) | (simp only [World.size_alloc, World.size_setCell, World.size_drew, World.heap_drewN] at *; omega)) | (with_reducible refine below_alloc ?_ _) | (with_reducible refine Below.drew ?_) | (with_reducible refine below_drewN ?_) | (with_reducible refine below_via (by assumption) ?_)))) hb7; have y0 := cell_keep b7 x0'; have y1 := cell_keep b7 x1'; have y2 := cell_keep b7 x2'; have y3 := cell_keep b7 x3'; have y4 := cell_keep b7 x4'; (try have R7 := row_grow hg7 (g := X.heap.size) (by simp [Value.ownBlock]) (by first | exact row_keep (below_alloc (Below.refl _ _) _) (one_row' _ _ _ ⟨1 + f, T, b, p, 500 + c⟩ rfl _ (by simp)) | exact row_drew (row_keep (below_alloc (Below.refl _ _) _) (one_row' _ _ _ ⟨1 + f, T, b, p, 500 + c⟩ rfl _ (by simp))) | exact row_drew (row_drew (row_keep (below_alloc (Below.refl _ _) _) (by first | exact one_row' _ _ _ ⟨1 + f, T, b, p, 500 + c⟩ rfl _ (by simp) | exact row_drew (one_row' _ _ _ ⟨1 + f, T, b, p, 500 + c⟩ rfl _ (by simp)) | exact row_drew (row_drew (one_row' _ _ _ ⟨1 + f, T, b, p, 500 + c⟩ rfl _ (by simp)))))))))
          | (refine step_append_rd rfl _ _ rfl X.heap.size _ _ rfl (by first | exact hown7 | exact OwnF.alloc hown7 _) _ 1 1 [⟨1 + f, T, b, p, 500 + c⟩] rfl rfl (by first | exact R7 | exact one_row _ _ _ ⟨1 + f, T, b, p, 500 + c⟩ rfl) (by simp; omega) (by omega) (by first | exact b7.size | exact Nat.le_trans b7.size (size_alloc_le _ _)) ?_; intro v8 w8 hown8 hb8 _; have b8 : Below X.heap.size X w8 := Below.trans (by first | exact b7 | exact below_alloc b7 _) hb8))
        all_goals
          have D0 := Drew.own DX0 b8 hBX
          have OX8 := OF.keep OX0 b8
          have hok8 : ∀ z ∈ [] ++ ys ++ [(⟨1 + f, T, b, p, 500 + c⟩ : Rd)], z.ok := by
            intro z hz
            simp only [List.nil_append, List.mem_append, List.mem_singleton] at hz
            rcases hz with hz | rfl
            · exact OX0.2.2 z hz
            · refine ⟨?_, hT, ?_, ?_, ?_⟩ <;> (show I64 _; unfold I64; simp only; omega)
          obtain ⟨zs, hzs⟩ : ∃ zs, zs = [] ++ ys ++ [(⟨1 + f, T, b, p, 500 + c⟩ : Rd)] := ⟨_, rfl⟩
          rw [← hzs] at hown8 hok8
          have hzl : zs.length = ys.length + 1 := by rw [hzs]; simp
          obtain ⟨gn, cn, rfl, o8⟩ := OwnF.addr hown8 hok8 (by omega)
          have Hzl := Lib.hid hzl
          have s8 := OF.fs Rd.enc_len o8
          clear hzs hzl hown8 hok8 b7 y0 y1 y2 y3 y4 hb7 hb8 hg7 OX0 DX0 x0' x1' x2' x3' x4'
          go_wp2_with fail
          refine (roadsOk_spec _ _ _ zs _ s8).mono ?_
          rintro e w9 ⟨rfl, b9⟩
          have D9 := D0.keep b9
          cases hr : roadsOk zs with
          | true =>
            go_wp2
            go_roundw
            case rel => exact ⟨k - 1, gn, cn, zs, by go_num, by have := Hzl.out; omega, rfl, (o8.keep b9).le hBX, D9⟩
            case measure => simp [intOf]; omega
          | false =>
            go_wp2
            go_roundw
            case rel => exact ⟨k - 1, gl, cl, ys, by go_num, by omega, rfl, OX8.keep b9, D9⟩
            case measure => simp [intOf]; omega
    · go_wp2
      go_ret
      exact ⟨⟨gl, cl, ys, rfl, O0, by omega⟩, D0⟩

end Go.Proofs.YtegnlijgjcfmlaaDoor
