/- What is drawn: routes. -/
import Derived.Test.YtegnlijgjcfmlaaDrawR2
import Derived.Test.YtegnlijgjcfmlaaWBest2
namespace Go.Proofs.Ytegnlijgjcfmlaa
open Go.RowKit
set_option linter.unusedVariables false
set_option linter.unusedSimpArgs false

theorem OwnI.keepG {w w' : World} {g B : Nat} {v : Value} {xs : List Int} (h : OwnI w B v xs) (hg : w.grownBy w' (some g)) (hB : g < B) : OwnI w' B v xs := by
  refine World.ownsRow.kept h hg ?_
  cases hv : v.ownBlock with
  | none => exact .inl rfl
  | some k => exact .inr (by have := (h.lt k hv).1; intro e; injection e with e; omega)

set_option maxRecDepth 100000 in
set_option maxHeartbeats 6400000 in
theorem l14Route_any (a : Option Addr) (len cap g : Nat) (sa : Option Addr) (ln sc B : Nat) (ys : List Rd) (w : World) (C0 : Cur w a len cap g) (hgB : g < B) (O0 : RdO w B sa ln sc ys) (hln : ln ≤ 12) : Calls Try.prog 60 #[.pointer (some ⟨g, 0, none⟩), .slice sa ln sc] w fun e w' =>
    (∃ (ra : Option Addr) (rl rc : Nat) (zs : List Int), e = .returned (.slice ra rl rc) ∧ IS w' w'.heap.size ra rl zs ∧ (∀ p, ra = some p → g < p.block)) ∧ Drew w a len cap g w' := by
  have D0 := Drew.refl C0
  have hg := C0.lt
  go_enter Try.func60, Try.ntmps60
  go_wp2_with fail
  refine (below_any _ _ _ _ _ _ (Drew.same D0 (by (repeat (first | (with_reducible exact D0) | (with_reducible refine Drew.setCell ?_ ?s1 _; case s1 => first | assumption | omega | (simp; omega)) | (with_reducible refine Drew.alloc ?_ _) | (with_reducible refine Drew.drewN ?_ _) | (with_reducible refine Drew.drew ?_)))))).mono ?_
  rintro e w2 ⟨⟨x, rfl, hx0, hx1⟩, D1⟩
  replace O0 := O0.keepG D1.grown hgB
  replace D0 := D0.trans D1
  clear D1
  go_wp2_with fail
  refine (below_any _ _ _ _ _ _ (Drew.same D0 (by (repeat (first | (with_reducible exact D0) | (with_reducible refine Drew.setCell ?_ ?s1 _; case s1 => first | assumption | omega | (simp; omega)) | (with_reducible refine Drew.alloc ?_ _) | (with_reducible refine Drew.drewN ?_ _) | (with_reducible refine Drew.drew ?_)))))).mono ?_
  rintro e w3 ⟨⟨y, rfl, hy0, hy1⟩, D1⟩
  replace O0 := O0.keepG D1.grown hgB
  replace D0 := D0.trans D1
  clear D1
  go_wp2_with fail
  refine (routeBest_spec _ _ _ _ _ _ _ ys _ (OF.fs Rd.enc_len O0)).mono ?_
  rintro e w4 ⟨ba, bl, bc, rfl, ib, bb, eb⟩
  have hz3 := D0.size
  replace O0 := O0.keep bb
  replace D0 := D0.keep bb
  clear bb
  cases hL : (bestR ys (1 + x) (1 + y) 100 4).isEmpty with
  | true =>
    obtain ⟨wx, hwx⟩ : ∃ wx, wx = w4 := ⟨_, rfl⟩
    subst hwx
    have P0 : OwnI (wx.alloc (.cells #[] 3)) w.heap.size (.slice (some ⟨wx.heap.size, 0, none⟩) 0 0) [] := OwnI.made wx _ D0.size
    have O9 := OF.keep O0 (below_alloc (Below.refl _ _) (.cells #[] 3))
    clear O0
    have O0 := O9
    clear O9
    go_wp2_with fail
    refine (below_any _ _ _ _ _ _ (Drew.same D0 (by (repeat (first | (with_reducible exact D0) | (with_reducible refine Drew.setCell ?_ ?s1 _; case s1 => first | assumption | omega | (simp; omega)) | (with_reducible refine Drew.alloc ?_ _) | (with_reducible refine Drew.drewN ?_ _) | (with_reducible refine Drew.drew ?_)))))).mono ?_
    rintro e w6 ⟨⟨z, rfl, hz0, hz1⟩, D1⟩
    replace O0 := O0.keepG D1.grown hgB
    have P1 := P0.keepG D1.grown hg
    replace D0 := Drew.trans2 D0 (by (repeat (first | (with_reducible exact D0) | (with_reducible refine Drew.setCell ?_ ?s1 _; case s1 => first | assumption | omega | (simp; omega)) | (with_reducible refine Drew.alloc ?_ _) | (with_reducible refine Drew.drewN ?_ _) | (with_reducible refine Drew.drew ?_)))) D1
    clear D1 P0
    go_wp2
    go_loopw [7, 8] (fun v i wr => ∃ (k : Nat) (zs : List Int), i = .int .i64 k ∧ zs.length + k ≤ 4 ∧ OwnI wr w.heap.size v zs ∧ Hid (∀ z ∈ zs, 0 ≤ z ∧ z ≤ 100) ∧ Drew w a len cap g wr) (fun _ i _ => (intOf i).toNat)
    case atStart => exact ⟨z.toNat, [], by rw [Int.toNat_of_nonneg hz0], by simp; omega, P1, by intro z hz; simp at hz, D0⟩
    case round =>
      obtain ⟨k, zs, rfl, hk, hown, hzs, D0⟩ := hrel
      by_cases hk0 : 0 < k
      · go_wp2_with fail
        refine (below_any _ _ _ _ _ _ (Drew.same D0 (by (repeat (first | (with_reducible exact D0) | (with_reducible refine Drew.setCell ?_ ?s1 _; case s1 => first | assumption | omega | (simp; omega)) | (with_reducible refine Drew.alloc ?_ _) | (with_reducible refine Drew.drewN ?_ _) | (with_reducible refine Drew.drew ?_)))))).mono ?_
        rintro e w7 ⟨⟨q, rfl, hq0, hq1⟩, D1⟩
        replace hown := hown.keepG D1.grown hg
        replace D0 := D0.trans D1
        clear D1
        have hz7 := D0.size
        have hq2 : q ≤ 100 := by omega
        have hzl : zs.length ≤ 1099511627776 := by omega
        go_wp2_with (at_builtin; refine wpList_append_int rfl _ _ rfl w.heap.size _ zs rfl (hown.alloc _) _ _ rfl (new_cell0 _ _ _) hzl (Nat.le_trans hz7 (size_alloc_le _ _)) ?_)
        intro v' w8 hown8 hb8
        have D8 := (D0.alloc (.cells #[.int .i64 q] 3)).own hb8 (Nat.le_refl _)
        go_wp2
        go_roundw
        case rel => exact ⟨k - 1, zs ++ [q], by go_num, by simp; omega, hown8, fun z hz => by
          rcases List.mem_append.1 hz with hz | hz
          · exact hzs.out z hz
          · simp at hz; omega, D8⟩
        case measure => simp [intOf]; omega
      · obtain ⟨ra, rc, rfl, ho⟩ := OwnI.oi hown (fun z hz => by have := hzs.out z hz; omega)
        go_wp2
        go_ret
        exact ⟨⟨ra, _, rc, zs, rfl, ho.is, fun p hp => by have := ho.ge p hp; omega⟩, D0⟩
  | false =>
    go_wp2_with fail
    refine (below_any _ _ _ _ _ _ (Drew.same D0 (by (repeat (first | (with_reducible exact D0) | (with_reducible refine Drew.setCell ?_ ?s1 _; case s1 => first | assumption | omega | (simp; omega)) | (with_reducible refine Drew.alloc ?_ _) | (with_reducible refine Drew.drewN ?_ _) | (with_reducible refine Drew.drew ?_)))))).mono ?_
    rintro e wx ⟨⟨u, rfl, hu0, hu1⟩, D1⟩
    have ib5 := IS.keepG ib D1.grown (fun p hp => by have := eb p hp; omega)
    have ib6 := ib5.mono D1.size
    replace O0 := O0.keepG D1.grown hgB
    replace D0 := D0.trans D1
    clear D1
    by_cases hu : 0 < u
    · go_wp2
      go_ret
      exact ⟨⟨ba, bl, bc, _, rfl, ib6, fun p hp => by have := eb p hp; omega⟩, D0⟩
    · have P0 : OwnI (wx.alloc (.cells #[] 3)) w.heap.size (.slice (some ⟨wx.heap.size, 0, none⟩) 0 0) [] := OwnI.made wx _ D0.size
      have O9 := OF.keep O0 (below_alloc (Below.refl _ _) (.cells #[] 3))
      clear O0
      have O0 := O9
      clear O9
      go_wp2_with fail
      refine (below_any _ _ _ _ _ _ (Drew.same D0 (by (repeat (first | (with_reducible exact D0) | (with_reducible refine Drew.setCell ?_ ?s1 _; case s1 => first | assumption | omega | (simp; omega)) | (with_reducible refine Drew.alloc ?_ _) | (with_reducible refine Drew.drewN ?_ _) | (with_reducible refine Drew.drew ?_)))))).mono ?_
      rintro e w6 ⟨⟨z, rfl, hz0, hz1⟩, D1⟩
      replace O0 := O0.keepG D1.grown hgB
      have P1 := P0.keepG D1.grown hg
      replace D0 := Drew.trans2 D0 (by (repeat (first | (with_reducible exact D0) | (with_reducible refine Drew.setCell ?_ ?s1 _; case s1 => first | assumption | omega | (simp; omega)) | (with_reducible refine Drew.alloc ?_ _) | (with_reducible refine Drew.drewN ?_ _) | (with_reducible refine Drew.drew ?_)))) D1
      clear D1 P0
      go_wp2
      go_loopw [7, 8] (fun v i wr => ∃ (k : Nat) (zs : List Int), i = .int .i64 k ∧ zs.length + k ≤ 4 ∧ OwnI wr w.heap.size v zs ∧ Hid (∀ z ∈ zs, 0 ≤ z ∧ z ≤ 100) ∧ Drew w a len cap g wr) (fun _ i _ => (intOf i).toNat)
      case atStart => exact ⟨z.toNat, [], by rw [Int.toNat_of_nonneg hz0], by simp; omega, P1, by intro z hz; simp at hz, D0⟩
      case round =>
        obtain ⟨k, zs, rfl, hk, hown, hzs, D0⟩ := hrel
        by_cases hk0 : 0 < k
        · go_wp2_with fail
          refine (below_any _ _ _ _ _ _ (Drew.same D0 (by (repeat (first | (with_reducible exact D0) | (with_reducible refine Drew.setCell ?_ ?s1 _; case s1 => first | assumption | omega | (simp; omega)) | (with_reducible refine Drew.alloc ?_ _) | (with_reducible refine Drew.drewN ?_ _) | (with_reducible refine Drew.drew ?_)))))).mono ?_
          rintro e w7 ⟨⟨q, rfl, hq0, hq1⟩, D1⟩
          replace hown := hown.keepG D1.grown hg
          replace D0 := D0.trans D1
          clear D1
          have hz7 := D0.size
          have hq2 : q ≤ 100 := by omega
          have hzl : zs.length ≤ 1099511627776 := by omega
          go_wp2_with (at_builtin; refine wpList_append_int rfl _ _ rfl w.heap.size _ zs rfl (hown.alloc _) _ _ rfl (new_cell0 _ _ _) hzl (Nat.le_trans hz7 (size_alloc_le _ _)) ?_)
          intro v' w8 hown8 hb8
          have D8 := (D0.alloc (.cells #[.int .i64 q] 3)).own hb8 (Nat.le_refl _)
          go_wp2
          go_roundw
          case rel => exact ⟨k - 1, zs ++ [q], by go_num, by simp; omega, hown8, fun z hz => by
            rcases List.mem_append.1 hz with hz | hz
            · exact hzs.out z hz
            · simp at hz; omega, D8⟩
          case measure => simp [intOf]; omega
        · obtain ⟨ra, rc, rfl, ho⟩ := OwnI.oi hown (fun z hz => by have := hzs.out z hz; omega)
          go_wp2
          go_ret
          exact ⟨⟨ra, _, rc, zs, rfl, ho.is, fun p hp => by have := ho.ge p hp; omega⟩, D0⟩

set_option maxRecDepth 100000 in
set_option maxHeartbeats 3200000 in
theorem drawRouteAmts_any (a : Option Addr) (len cap : Nat) (xs : List Int) (w : World) (S0 : Bs w w.heap.size a len xs) : Calls Try.prog 24 #[.slice a len cap] w fun e w' =>
    (∃ (sa : Option Addr) (ln sc : Nat) (ys : List Rd) (ra : Option Addr) (rl rc : Nat) (zs : List Int) (m : Int), e = .returned (.tuple #[.slice sa ln sc, .slice ra rl rc, .int .i64 m]) ∧ RdO w' w.heap.size sa ln sc ys ∧ ln ≤ 12 ∧ IS w' w'.heap.size ra rl zs ∧ (-9223372036854775808 ≤ m ∧ m ≤ 9223372036854775807)) ∧ Below w.heap.size w w' := by
  go_enter Try.func24, Try.ntmps24
  go_wp2_with fail
  refine (new_any _ _ _ xs _ S0).mono ?_
  rintro e w1 ⟨rfl, C1, H0⟩
  have D0 := Drew.refl C1
  have hg := C1.lt
  go_wp2_with fail
  refine (l14Any_any _ _ _ _ _ C1).mono ?_
  rintro e w2 ⟨⟨sa, ln, sc, ys, rfl, O0, hln⟩, D1⟩
  replace D0 := D0.trans D1
  clear D1
  go_wp2_with fail
  refine (l14Route_any _ _ _ _ _ _ _ _ ys _ D0.cur hg O0 hln).mono ?_
  rintro e w3 ⟨⟨ra, rl, rc, zs, rfl, i3, hne⟩, D1⟩
  replace O0 := O0.keepG D1.grown hg
  replace D0 := D0.trans D1
  clear D1
  go_wp2_with fail
  refine (l14Amt_any _ _ _ _ _ D0.cur).mono ?_
  rintro e w4 ⟨⟨m, rfl, hm⟩, D1⟩
  replace O0 := O0.keepG D1.grown hg
  have i4 := (IS.keepG i3 D1.grown (fun p hp => by have := hne p hp; omega)).mono D1.size
  replace D0 := D0.trans D1
  clear D1
  go_wp2
  refine bodyPost_ret (by simp only [results, Try.results24]; go_simp; rfl) rfl ?_
  exact ⟨⟨sa, ln, sc, ys, ra, rl, rc, zs, m, rfl, O0.le H0.size, hln, i4, hm⟩, Drew.below H0 D0⟩

end Go.Proofs.Ytegnlijgjcfmlaa
