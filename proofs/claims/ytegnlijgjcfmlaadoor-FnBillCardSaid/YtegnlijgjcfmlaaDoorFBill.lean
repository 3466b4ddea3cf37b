/- The law on bills walked. -/
import Derived.Test.YtegnlijgjcfmlaaDoorFBillP
import Derived.Test.YtegnlijgjcfmlaaDoorBDraw
import Derived.Test.YtegnlijgjcfmlaaDoorTBillI
import Derived.Test.YtegnlijgjcfmlaaDoorPaid
import Derived.Test.YtegnlijgjcfmlaaDoorBDue
import Derived.Test.YtegnlijgjcfmlaaDoorAdd
import Derived.Test.YtegnlijgjcfmlaaDoorGrew
import Derived.Deep.RegionHeld3
namespace Go.Proofs.YtegnlijgjcfmlaaDoor
open Go.RowKit
set_option linter.unusedVariables false
set_option linter.unusedSimpArgs false

set_option maxRecDepth 100000 in
theorem subSelf_impl (x : Int) (h0 : 1 ≤ x) (h1 : x ≤ 1125899906842624) (w : World) : Calls Tryd.prog 27 #[.int .i64 x, .int .i64 x] w fun e w' => e = .returned (.tuple #[.int .i64 0, .bool true]) ∧ w' = w := by
  have ha : amtOk x = true := decide_eq_true (by omega)
  go_enter Tryd.func27, Tryd.ntmps27
  go_wp2_with (((first | (go_at_call 61; refine (amtOk_impl _ _).mono ?_) | (go_at_call 62; refine (amt_impl _ _).mono ?_)); rintro e w1 ⟨rfl, rfl⟩))
  refine bodyPost_ret (by simp only [results, Tryd.results27]; go_simp; rfl) rfl ?_
  exact ⟨rfl, rfl⟩

theorem BlS.two (w : World) (r : Bl) (hr : r.ok) (t : TypeId) (g : Nat) (hg : g = w.heap.size) : BlS (w.alloc (.cells #[.int .i64 r.i, .int .i64 r.p, .int .i64 r.a, .int .i64 r.m, .int .i64 r.d, .string r.s, .int .i64 r.i, .int .i64 r.p, .int .i64 r.a, .int .i64 r.m, .int .i64 r.d, .string r.s] t)) (w.alloc (.cells #[.int .i64 r.i, .int .i64 r.p, .int .i64 r.a, .int .i64 r.m, .int .i64 r.d, .string r.s, .int .i64 r.i, .int .i64 r.p, .int .i64 r.a, .int .i64 r.m, .int .i64 r.d, .string r.s] t)).heap.size (some ⟨g, 0, none⟩) 2 [r, r] := by
  subst hg
  refine ⟨rfl, by simp [maxLen], by intro x hx; simp at hx; rw [hx]; exact hr, fun i x hx => ?_⟩
  match i, hx with
  | 0, hx =>
    simp at hx
    subst hx
    refine ⟨w.heap.size, 0, rfl, by simp, fun j v hv => ?_⟩
    match j, hv with
    | 0, hv => simp [Bl.enc] at hv; subst hv; simp [go_sem]
    | 1, hv => simp [Bl.enc] at hv; subst hv; simp [go_sem]
    | 2, hv => simp [Bl.enc] at hv; subst hv; simp [go_sem]
    | 3, hv => simp [Bl.enc] at hv; subst hv; simp [go_sem]
    | 4, hv => simp [Bl.enc] at hv; subst hv; simp [go_sem]
    | 5, hv => simp [Bl.enc] at hv; subst hv; simp [go_sem]
    | j + 6, hv => simp [Bl.enc] at hv
  | 1, hx =>
    simp at hx
    subst hx
    refine ⟨w.heap.size, 0, rfl, by simp, fun j v hv => ?_⟩
    match j, hv with
    | 0, hv => simp [Bl.enc] at hv; subst hv; simp [go_sem]
    | 1, hv => simp [Bl.enc] at hv; subst hv; simp [go_sem]
    | 2, hv => simp [Bl.enc] at hv; subst hv; simp [go_sem]
    | 3, hv => simp [Bl.enc] at hv; subst hv; simp [go_sem]
    | 4, hv => simp [Bl.enc] at hv; subst hv; simp [go_sem]
    | 5, hv => simp [Bl.enc] at hv; subst hv; simp [go_sem]
    | j + 6, hv => simp [Bl.enc] at hv
  | i + 2, hx => simp at hx

theorem IS.one (w : World) (n : Int) (hn : -9223372036854775808 ≤ n ∧ n ≤ 9223372036854775807) (t : TypeId) (g : Nat) (hg : g = w.heap.size) : IS (w.alloc (.cells #[.int .i64 n] t)) (w.alloc (.cells #[.int .i64 n] t)).heap.size (some ⟨g, 0, none⟩) 1 [n] := by
  subst hg
  refine ⟨rfl, by simp [maxLen], by simpa using hn, fun i x hx => ?_⟩
  cases i with
  | zero =>
    simp at hx
    subst hx
    exact ⟨w.heap.size, 0, rfl, by simp, by simp [go_sem]⟩
  | succ i => simp at hx

theorem paid_two {r : Bl} (h : r.good = true) : billsPaid [r, r] [r.i] = r.a := by
  have ha := Bl.good_amt h
  have e : (paidGo [r.i] [r, r]).1 = r.a := by
    have h1 : hasB [r.i] r.i = true := by simp [hasB]
    have h2 : hasB [] r.i = false := by simp [hasB]
    have s1 : paidStep [r.i] (0, []) r = (r.a, [r.i]) := by
      unfold paidStep
      rw [if_pos ⟨h1, h2⟩, List.nil_append, Int.zero_add]
    have s2 : paidStep [r.i] (r.a, [r.i]) r = (r.a, [r.i]) := by
      unfold paidStep
      rw [if_neg (by rw [h1]; simp)]
    simp only [paidGo, List.foldl_cons, List.foldl_nil, s1, s2]
  unfold billsPaid
  rw [if_pos (by simp [h]), e, if_pos ha.2]

theorem bText_len {i p a m d : Int} {s : ByteArray} (hs : s.size ≤ 9) : (bText i p a m d s).length ≤ 1000 := by
  unfold bText
  split
  · rename_i h
    have h1 := tailT_len _ (bill_in h)
    have h3 := tailT_len [chk (bBody i p a m d s)] (by have := chk_bd (bBody i p a m d s); intro x hx; simp at hx; subst hx; omega)
    have h2 : (noteB s).length ≤ 9 := by
      unfold noteB
      split
      · simp
      · have : s.data.toList.length = s.size := Array.length_toList
        omega
    have h4 : (tailT [chk (bBody i p a m d s)]).length = 1 + (digs (chk (bBody i p a m d s))).length := by simp [tailT, Lib.joinTail]; omega
    have h5 : (bBody i p a m d s).length ≤ 200 := by
      unfold bBody bHead
      simp only [List.length_append, List.length_cons, List.length_nil] at h1 ⊢
      omega
    simp only [List.length_append, List.length_cons, List.length_nil] at h1 h3 ⊢
    omega
  · simp

def Box (b : Nat) (i p m d k : Int) (n : ByteArray) (w : World) : Prop :=
  w.cell? ⟨b, 0, none⟩ = some (.int .i64 i) ∧ w.cell? ⟨b, 1, none⟩ = some (.int .i64 p) ∧ w.cell? ⟨b, 2, none⟩ = some (.int .i64 m) ∧ w.cell? ⟨b, 3, none⟩ = some (.int .i64 d) ∧ w.cell? ⟨b, 4, none⟩ = some (.int .i64 k) ∧ w.cell? ⟨b, 5, none⟩ = some (.string n)
theorem box_of {w w' : World} {b : Nat} {i p m d k : Int} {n : ByteArray} (c : Below w.heap.size w w') (hb : b < w.heap.size) (h0 : w.cell? ⟨b, 0, none⟩ = some (.int .i64 i)) (h1 : w.cell? ⟨b, 1, none⟩ = some (.int .i64 p)) (h2 : w.cell? ⟨b, 2, none⟩ = some (.int .i64 m)) (h3 : w.cell? ⟨b, 3, none⟩ = some (.int .i64 d)) (h4 : w.cell? ⟨b, 4, none⟩ = some (.int .i64 k)) (h5 : w.cell? ⟨b, 5, none⟩ = some (.string n)) : Box b i p m d k n w' :=
  ⟨cell_keep c h0, cell_keep c h1, cell_keep c h2, cell_keep c h3, cell_keep c h4, cell_keep c h5⟩

set_option maxRecDepth 100000 in
set_option maxHeartbeats 6400000 in
theorem walk_FnBill (a : Option Addr) (len cap : Nat) (xs : List Int) (w : World) (S0 : Bs w w.heap.size a len xs) (T0 : LV w) : Calls Tryd.prog 7 #[.slice a len cap] w fun e w' => e = .returned (.bool true) ∧ Below w.heap.size w w' := by
  have hl := S0.lenB
  by_cases hlen : len ≤ 1048576
  · go_enter Tryd.func7, Tryd.ntmps7
    go_wp2_with fail
    refine (drawBillText_any _ _ _ xs _ (FS.keep S0 (by (repeat (first | (with_reducible exact Below.refl _ _) | (with_reducible assumption) | (with_reducible refine Below.setCell ?_ ?side _; case side => first | (with_reducible exact Nat.le_refl _) | (simp; done) | (simp only [World.size_alloc, World.size_setCell, World.size_drew, World.heap_drewN] at *; omega)) | (with_reducible refine below_alloc ?_ _) | (with_reducible refine Below.drew ?_) | (with_reducible refine below_drewN ?_) | (with_reducible refine below_via (by assumption) ?_)))))).mono ?_
    rintro e w1 ⟨⟨i, p, m, d, k, n, rfl, hii, hip, him, hid, hik, hin⟩, b1⟩
    have T1 := T0.keep (below_via b1 (by (repeat (first | (with_reducible exact Below.refl _ _) | (with_reducible assumption) | (with_reducible refine Below.setCell ?_ ?side _; case side => first | (with_reducible exact Nat.le_refl _) | (simp; done) | (simp only [World.size_alloc, World.size_setCell, World.size_drew, World.heap_drewN] at *; omega)) | (with_reducible refine below_alloc ?_ _) | (with_reducible refine Below.drew ?_) | (with_reducible refine below_drewN ?_) | (with_reducible refine below_via (by assumption) ?_))) : Below w.heap.size w _))
    have B1 := below_via b1 (by (repeat (first | (with_reducible exact Below.refl _ _) | (with_reducible assumption) | (with_reducible refine Below.setCell ?_ ?side _; case side => first | (with_reducible exact Nat.le_refl _) | (simp; done) | (simp only [World.size_alloc, World.size_setCell, World.size_drew, World.heap_drewN] at *; omega)) | (with_reducible refine below_alloc ?_ _) | (with_reducible refine Below.drew ?_) | (with_reducible refine below_drewN ?_) | (with_reducible refine below_via (by assumption) ?_))) : Below w.heap.size w _)
    obtain ⟨hc0, hf0, hs0, hz0⟩ := brules b1
    go_wp2_with fail
    refine (billText_impl i p m d k n _ (by omega) (T1.pow.keep (by (repeat (first | (with_reducible exact Below.refl _ _) | (with_reducible assumption) | (with_reducible refine Below.setCell ?_ ?side _; case side => first | (with_reducible exact Nat.le_refl _) | (simp; done) | (simp only [World.size_alloc, World.size_setCell, World.size_drew, World.heap_drewN] at *; omega)) | (with_reducible refine below_alloc ?_ _) | (with_reducible refine Below.drew ?_) | (with_reducible refine below_drewN ?_) | (with_reducible refine below_via (by assumption) ?_)))))).mono ?_
    rintro e w2 ⟨rfl, b2⟩
    have T2 := T1.keep (below_via b2 (by (repeat (first | (with_reducible exact Below.refl _ _) | (with_reducible assumption) | (with_reducible refine Below.setCell ?_ ?side _; case side => first | (with_reducible exact Nat.le_refl _) | (simp; done) | (simp only [World.size_alloc, World.size_setCell, World.size_drew, World.heap_drewN] at *; omega)) | (with_reducible refine below_alloc ?_ _) | (with_reducible refine Below.drew ?_) | (with_reducible refine below_drewN ?_) | (with_reducible refine below_via (by assumption) ?_)))))
    have B2 := below_via b2 (by (repeat (first | (with_reducible exact Below.refl _ _) | (with_reducible assumption) | (with_reducible refine Below.setCell ?_ ?side _; case side => first | (with_reducible exact Nat.le_refl _) | (simp; done) | (simp only [World.size_alloc, World.size_setCell, World.size_drew, World.heap_drewN] at *; omega)) | (with_reducible refine below_alloc ?_ _) | (with_reducible refine Below.drew ?_) | (with_reducible refine below_drewN ?_) | (with_reducible refine below_via (by assumption) ?_))) : Below w.heap.size w _)
    obtain ⟨hc1, hf1, hs1, hz1⟩ := brules b2
    cases hok : billOk i p m d k n with
    | false =>
      rw [bText_bad hok]
      go_wp2_with fail
      refine (billOk_spec i p m d k n _ (by omega)).mono ?_
      rintro e w3 ⟨rfl, b3⟩
      rw [hok]
      have T3 := T2.keep (below_via b3 (by (repeat (first | (with_reducible exact Below.refl _ _) | (with_reducible assumption) | (with_reducible refine Below.setCell ?_ ?side _; case side => first | (with_reducible exact Nat.le_refl _) | (simp; done) | (simp only [World.size_alloc, World.size_setCell, World.size_drew, World.heap_drewN] at *; omega)) | (with_reducible refine below_alloc ?_ _) | (with_reducible refine Below.drew ?_) | (with_reducible refine below_drewN ?_) | (with_reducible refine below_via (by assumption) ?_)))))
      have B3 := below_via b3 (by (repeat (first | (with_reducible exact Below.refl _ _) | (with_reducible assumption) | (with_reducible refine Below.setCell ?_ ?side _; case side => first | (with_reducible exact Nat.le_refl _) | (simp; done) | (simp only [World.size_alloc, World.size_setCell, World.size_drew, World.heap_drewN] at *; omega)) | (with_reducible refine below_alloc ?_ _) | (with_reducible refine Below.drew ?_) | (with_reducible refine below_drewN ?_) | (with_reducible refine below_via (by assumption) ?_))) : Below w.heap.size w _)
      have c3 := below_via b3 (below_via (W := w2) (by (repeat (first | (with_reducible exact Below.refl _ _) | (with_reducible assumption) | (with_reducible refine Below.setCell ?_ ?side _; case side => first | (with_reducible exact Nat.le_refl _) | (simp; done) | (simp only [World.size_alloc, World.size_setCell, World.size_drew, World.heap_drewN] at *; omega)) | (with_reducible refine below_alloc ?_ _) | (with_reducible refine Below.drew ?_) | (with_reducible refine below_drewN ?_) | (with_reducible refine below_via (by assumption) ?_)))) b2)
      clear hc1 hf1 hs1 hz1
      obtain ⟨hc2, hf2, hs2, hz2⟩ := brules c3
      go_wp2_with fail
      refine (textBill_impl _ (by decide) _ (T3.keep (by (repeat (first | (with_reducible exact Below.refl _ _) | (with_reducible assumption) | (with_reducible refine Below.setCell ?_ ?side _; case side => first | (with_reducible exact Nat.le_refl _) | (simp; done) | (simp only [World.size_alloc, World.size_setCell, World.size_drew, World.heap_drewN] at *; omega)) | (with_reducible refine below_alloc ?_ _) | (with_reducible refine Below.drew ?_) | (with_reducible refine below_drewN ?_) | (with_reducible refine below_via (by assumption) ?_)))))).mono ?_
      rintro e w4 ⟨rfl, b4⟩
      rw [show tbV (S []).data.toList = tbBad from tbV_nil]
      have B4 := below_via b4 (by (repeat (first | (with_reducible exact Below.refl _ _) | (with_reducible assumption) | (with_reducible refine Below.setCell ?_ ?side _; case side => first | (with_reducible exact Nat.le_refl _) | (simp; done) | (simp only [World.size_alloc, World.size_setCell, World.size_drew, World.heap_drewN] at *; omega)) | (with_reducible refine below_alloc ?_ _) | (with_reducible refine Below.drew ?_) | (with_reducible refine below_drewN ?_) | (with_reducible refine below_via (by assumption) ?_))) : Below w.heap.size w _)
      have c4 := below_via b4 (below_via (W := w3) (by (repeat (first | (with_reducible exact Below.refl _ _) | (with_reducible assumption) | (with_reducible refine Below.setCell ?_ ?side _; case side => first | (with_reducible exact Nat.le_refl _) | (simp; done) | (simp only [World.size_alloc, World.size_setCell, World.size_drew, World.heap_drewN] at *; omega)) | (with_reducible refine below_alloc ?_ _) | (with_reducible refine Below.drew ?_) | (with_reducible refine below_drewN ?_) | (with_reducible refine below_via (by assumption) ?_)))) c3)
      clear hc2 hf2 hs2 hz2
      obtain ⟨hc3, hf3, hs3, hz3⟩ := brules c4
      unfold tbBad
      go_wp2_with fail
      refine (billDue_impl i p m d k n 5 _ (by omega)).mono ?_
      rintro e w5 ⟨rfl, b5⟩
      rw [show billDue i p m d k n 5 = -1 from by unfold billDue; rw [hok]; simp]
      have B5 := below_via b5 (by (repeat (first | (with_reducible exact Below.refl _ _) | (with_reducible assumption) | (with_reducible refine Below.setCell ?_ ?side _; case side => first | (with_reducible exact Nat.le_refl _) | (simp; done) | (simp only [World.size_alloc, World.size_setCell, World.size_drew, World.heap_drewN] at *; omega)) | (with_reducible refine below_alloc ?_ _) | (with_reducible refine Below.drew ?_) | (with_reducible refine below_drewN ?_) | (with_reducible refine below_via (by assumption) ?_))) : Below w.heap.size w _)
      go_wp2_with fail
      refine bodyPost_ret (by simp only [results, Tryd.results7]; go_simp; rfl) rfl ?_
      exact ⟨rfl, by (repeat (first | (with_reducible exact Below.refl _ _) | (with_reducible assumption) | (with_reducible refine Below.setCell ?_ ?side _; case side => first | (with_reducible exact Nat.le_refl _) | (simp; done) | (simp only [World.size_alloc, World.size_setCell, World.size_drew, World.heap_drewN] at *; omega)) | (with_reducible refine below_alloc ?_ _) | (with_reducible refine Below.drew ?_) | (with_reducible refine below_drewN ?_) | (with_reducible refine below_via (by assumption) ?_)))⟩
    | true =>
      have hne := bText_ne hok
      have hbl := bText_len (i := i) (p := p) (a := m) (m := d) (d := k) hin
      go_wp2_with fail
      refine (billOk_spec i p m d k n _ (by omega)).mono ?_
      rintro e w3 ⟨rfl, b3⟩
      rw [hok]
      have T3 := T2.keep (below_via b3 (by (repeat (first | (with_reducible exact Below.refl _ _) | (with_reducible assumption) | (with_reducible refine Below.setCell ?_ ?side _; case side => first | (with_reducible exact Nat.le_refl _) | (simp; done) | (simp only [World.size_alloc, World.size_setCell, World.size_drew, World.heap_drewN] at *; omega)) | (with_reducible refine below_alloc ?_ _) | (with_reducible refine Below.drew ?_) | (with_reducible refine below_drewN ?_) | (with_reducible refine below_via (by assumption) ?_)))))
      have B3 := below_via b3 (by (repeat (first | (with_reducible exact Below.refl _ _) | (with_reducible assumption) | (with_reducible refine Below.setCell ?_ ?side _; case side => first | (with_reducible exact Nat.le_refl _) | (simp; done) | (simp only [World.size_alloc, World.size_setCell, World.size_drew, World.heap_drewN] at *; omega)) | (with_reducible refine below_alloc ?_ _) | (with_reducible refine Below.drew ?_) | (with_reducible refine below_drewN ?_) | (with_reducible refine below_via (by assumption) ?_))) : Below w.heap.size w _)
      have c3 := below_via b3 (below_via (W := w2) (by (repeat (first | (with_reducible exact Below.refl _ _) | (with_reducible assumption) | (with_reducible refine Below.setCell ?_ ?side _; case side => first | (with_reducible exact Nat.le_refl _) | (simp; done) | (simp only [World.size_alloc, World.size_setCell, World.size_drew, World.heap_drewN] at *; omega)) | (with_reducible refine below_alloc ?_ _) | (with_reducible refine Below.drew ?_) | (with_reducible refine below_drewN ?_) | (with_reducible refine below_via (by assumption) ?_)))) b2)
      clear hc1 hf1 hs1 hz1
      obtain ⟨hc2, hf2, hs2, hz2⟩ := brules c3
      have e1 : (bText i p m d k n).isEmpty = false := by cases h : bText i p m d k n with | nil => exact absurd h hne | cons => rfl
      go_wp2_with fail
      refine (textBill_impl (S (bText i p m d k n)) (by simp only [S, ByteArray.size, List.size_toArray]; omega) _ (T3.keep (by (repeat (first | (with_reducible exact Below.refl _ _) | (with_reducible assumption) | (with_reducible refine Below.setCell ?_ ?side _; case side => first | (with_reducible exact Nat.le_refl _) | (simp; done) | (simp only [World.size_alloc, World.size_setCell, World.size_drew, World.heap_drewN] at *; omega)) | (with_reducible refine below_alloc ?_ _) | (with_reducible refine Below.drew ?_) | (with_reducible refine below_drewN ?_) | (with_reducible refine below_via (by assumption) ?_)))))).mono ?_
      rintro e w4 ⟨rfl, b4⟩
      rw [show tbV (S (bText i p m d k n)).data.toList = _ from tbV_text hok]
      have T4 := T3.keep (below_via b4 (by (repeat (first | (with_reducible exact Below.refl _ _) | (with_reducible assumption) | (with_reducible refine Below.setCell ?_ ?side _; case side => first | (with_reducible exact Nat.le_refl _) | (simp; done) | (simp only [World.size_alloc, World.size_setCell, World.size_drew, World.heap_drewN] at *; omega)) | (with_reducible refine below_alloc ?_ _) | (with_reducible refine Below.drew ?_) | (with_reducible refine below_drewN ?_) | (with_reducible refine below_via (by assumption) ?_)))))
      have B4 := below_via b4 (by (repeat (first | (with_reducible exact Below.refl _ _) | (with_reducible assumption) | (with_reducible refine Below.setCell ?_ ?side _; case side => first | (with_reducible exact Nat.le_refl _) | (simp; done) | (simp only [World.size_alloc, World.size_setCell, World.size_drew, World.heap_drewN] at *; omega)) | (with_reducible refine below_alloc ?_ _) | (with_reducible refine Below.drew ?_) | (with_reducible refine below_drewN ?_) | (with_reducible refine below_via (by assumption) ?_))) : Below w.heap.size w _)
      have c4 := below_via b4 (below_via (W := w3) (by (repeat (first | (with_reducible exact Below.refl _ _) | (with_reducible assumption) | (with_reducible refine Below.setCell ?_ ?side _; case side => first | (with_reducible exact Nat.le_refl _) | (simp; done) | (simp only [World.size_alloc, World.size_setCell, World.size_drew, World.heap_drewN] at *; omega)) | (with_reducible refine below_alloc ?_ _) | (with_reducible refine Below.drew ?_) | (with_reducible refine below_drewN ?_) | (with_reducible refine below_via (by assumption) ?_)))) c3)
      clear hc2 hf2 hs2 hz2
      obtain ⟨hc3, hf3, hs3, hz3⟩ := brules c4
      have hb := billOk_t hok
      have ht1 : timeOk d = true := decide_eq_true (by omega)
      have ht2 : timeOk k = true := decide_eq_true (by omega)
      have Hok := Lib.hid hok
      obtain ⟨V, hV⟩ : ∃ V, V = k - d := ⟨_, rfl⟩
      have hd1 : Hid (billDue i p m d k n d = V) := by unfold Hid billDue; rw [if_pos ⟨hok, ht1⟩]; omega
      have hw1 : IntKind.i64.wrap V = V := by rw [IntKind.wrap_i64]; omega
      have hrok : Hid ((⟨i, p, m, d, k, n⟩ : Bl).ok) := ⟨hii, hip, him, hid, hik, by show n.size ≤ _; omega⟩
      have hpd : Hid (billsPaid [⟨i, p, m, d, k, n⟩, ⟨i, p, m, d, k, n⟩] [i] = m) := paid_two (r := ⟨i, p, m, d, k, n⟩) hok
      have hw2 : k - d = V := hV.symm
      clear hV
      have hd2 : Hid (billDue i p m d k n k = 0) := by unfold Hid billDue; rw [if_pos ⟨hok, ht2⟩]; omega
      clear ht1 ht2
      go_wp2_with fail
      refine (subSelf_impl m (by omega) (by omega) _).mono ?_
      rintro e w5 ⟨rfl, rfl⟩
      have hbox : Hid (∀ w', Below (w1.alloc (.cells #[.int .i64 i, .int .i64 p, .int .i64 m, .int .i64 d, .int .i64 k, .string n] 42)).heap.size (w1.alloc (.cells #[.int .i64 i, .int .i64 p, .int .i64 m, .int .i64 d, .int .i64 k, .string n] 42)) w' → Box w1.heap.size i p m d k n w') := fun w' c => box_of (b := w1.heap.size) c (by simp) (by simp [go_sem]) (by simp [go_sem]) (by simp [go_sem]) (by simp [go_sem]) (by simp [go_sem]) (by simp [go_sem])
      have f4 := hbox.out _ c4
      obtain ⟨f40, f41, f42, f43, f44, f45⟩ := f4
      have hbz : w1.heap.size < w4.heap.size := by have := c4.size; simp at this; omega
      clear hc3 hf3 hs3 hz3
      go_wp2_with fail
      go_region_held3 (fun w' => w'.cell? ⟨w1.heap.size, 0, none⟩ = some (.int .i64 i) ∧ w'.cell? ⟨w1.heap.size, 1, none⟩ = some (.int .i64 p) ∧ w'.cell? ⟨w1.heap.size, 2, none⟩ = some (.int .i64 m) ∧ w'.cell? ⟨w1.heap.size, 3, none⟩ = some (.int .i64 d) ∧ w'.cell? ⟨w1.heap.size, 4, none⟩ = some (.int .i64 k) ∧ w'.cell? ⟨w1.heap.size, 5, none⟩ = some (.string n)) (go_keep) (first
        | (go_at_call 26; refine (billDue_impl i p m d k n _ _ (by omega)).mono ?_; rintro e w5 ⟨rfl, b5⟩; (first | rw [hd1.out] | rw [hd2.out]); replace c4 := below_via b5 (show Below _ _ _ from by first | exact c4 | exact below_via (W := w4) (by (repeat (first | (with_reducible exact Below.refl _ _) | (with_reducible assumption) | (with_reducible refine Below.setCell ?_ ?side _; case side => first | (with_reducible exact Nat.le_refl _) | (simp; done) | (simp only [World.size_alloc, World.size_setCell, World.size_drew, World.heap_drewN] at *; omega)) | (with_reducible refine below_alloc ?_ _) | (with_reducible refine Below.drew ?_) | (with_reducible refine below_drewN ?_) | (with_reducible refine below_via (by assumption) ?_)))) c4); obtain ⟨f50, f51, f52, f53, f54, f55⟩ := hbox.out _ c4)
        | (go_at_call 28; refine (billsPaid_impl _ _ _ _ _ _ [⟨i, p, m, d, k, n⟩, ⟨i, p, m, d, k, n⟩] [i] _ (by first | exact FS.keep (BlS.two _ ⟨i, p, m, d, k, n⟩ hrok.out _ _ (by first | rfl | (simp; done))) (below_alloc (Below.refl _ _) _) | exact BlS.two _ ⟨i, p, m, d, k, n⟩ hrok.out _ _ (by first | rfl | (simp; done))) (by first | exact IS.keep (IS.one _ i (by omega) _ _ (by first | rfl | (simp; done))) (below_alloc (Below.refl _ _) _) | exact IS.one _ i (by omega) _ _ (by first | rfl | (simp; done))) (by decide)).mono ?_; rintro e w7 ⟨rfl, b7⟩; rw [hpd.out]; replace c4 := below_via b7 (show Below _ _ _ from below_via (W := w5) (by (repeat (first | (with_reducible exact Below.refl _ _) | (with_reducible assumption) | (with_reducible refine Below.setCell ?_ ?side _; case side => first | (with_reducible exact Nat.le_refl _) | (simp; done) | (simp only [World.size_alloc, World.size_setCell, World.size_drew, World.heap_drewN] at *; omega)) | (with_reducible refine below_alloc ?_ _) | (with_reducible refine Below.drew ?_) | (with_reducible refine below_drewN ?_) | (with_reducible refine below_via (by assumption) ?_)))) c4); obtain ⟨f50, f51, f52, f53, f54, f55⟩ := hbox.out _ c4))
      all_goals
        have BZ := below_via c4 (by (repeat (first | (with_reducible exact Below.refl _ _) | (with_reducible assumption) | (with_reducible refine Below.setCell ?_ ?side _; case side => first | (with_reducible exact Nat.le_refl _) | (simp; done) | (simp only [World.size_alloc, World.size_setCell, World.size_drew, World.heap_drewN] at *; omega)) | (with_reducible refine below_alloc ?_ _) | (with_reducible refine Below.drew ?_) | (with_reducible refine below_drewN ?_) | (with_reducible refine below_via (by assumption) ?_))) : Below w.heap.size w (w1.alloc (.cells #[.int .i64 i, .int .i64 p, .int .i64 m, .int .i64 d, .int .i64 k, .string n] 42)))
        go_wp2
        refine bodyPost_ret (by simp only [results, Tryd.results7]; go_simp; rfl) rfl ?_
        exact ⟨rfl, by (repeat (first | (with_reducible exact Below.refl _ _) | (with_reducible assumption) | (with_reducible refine Below.setCell ?_ ?side _; case side => first | (with_reducible exact Nat.le_refl _) | (simp; done) | (simp only [World.size_alloc, World.size_setCell, World.size_drew, World.heap_drewN] at *; omega)) | (with_reducible refine below_alloc ?_ _) | (with_reducible refine Below.drew ?_) | (with_reducible refine below_drewN ?_) | (with_reducible refine below_via (by assumption) ?_)))⟩
  · go_enter Tryd.func7, Tryd.ntmps7
    go_wp2_with fail
    go_ret
    exact ⟨rfl, by (repeat (first | (with_reducible exact Below.refl _ _) | (with_reducible assumption) | (with_reducible refine Below.setCell ?_ ?side _; case side => first | (with_reducible exact Nat.le_refl _) | (simp; done) | (simp only [World.size_alloc, World.size_setCell, World.size_drew, World.heap_drewN] at *; omega)) | (with_reducible refine below_alloc ?_ _) | (with_reducible refine Below.drew ?_) | (with_reducible refine below_drewN ?_) | (with_reducible refine below_via (by assumption) ?_)))⟩

end Go.Proofs.YtegnlijgjcfmlaaDoor
