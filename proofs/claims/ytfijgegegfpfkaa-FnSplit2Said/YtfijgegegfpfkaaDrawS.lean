/- What is drawn: an amount and capacities. -/
import Derived.Test.YtfijgegegfpfkaaDraw
import Derived.Test.YtfijgegegfpfkaaOwn
import Derived.Deep.RegionWith
import Derived.Deep.DeepCutAuto
namespace Go.Proofs.Ytfijgegegfpfkaa
open Go.RowKit
set_option linter.unusedVariables false
set_option linter.unusedSimpArgs false

theorem OwnI.keepGS {w w' : World} {g B : Nat} {v : Value} {xs : List Int} (h : OwnI w B v xs) (hg : w.grownBy w' (some g)) (hB : g < B) : OwnI w' B v xs := by
  refine World.ownsRow.kept h hg ?_
  cases hv : v.ownBlock with
  | none => exact .inl rfl
  | some k => exact .inr (by have := (h.lt k hv).1; intro e; injection e with e; omega)
theorem OI.keepGS {w w' : World} {B g : Nat} {a : Option Addr} {len cap : Nat} {xs : List Int} (h : OI w B a len cap xs) (hg : w.grownBy w' (some g)) (hB : g < B) : OI w' B a len cap xs :=
  h.keepG hg fun p hp => by have := h.ge p hp; omega
theorem OI.own {w : World} {B : Nat} {a : Option Addr} {len cap : Nat} {xs : List Int} (h : OI w B a len cap xs) : OwnI w B (.slice a len cap) xs := by
  obtain ⟨h1, h2, _⟩ := h
  subst h2
  exact h1
def lenV : Value → Nat
  | .slice _ n _ => n
  | _ => 0

set_option maxRecDepth 100000 in
set_option maxHeartbeats 6400000 in
theorem l16Draw_any (a : Option Addr) (len cap g : Nat) (w : World) (C0 : Cur w a len cap g) : Calls Try.prog 28 #[.pointer (some ⟨g, 0, none⟩)] w fun e w' =>
    (∃ (sa : Option Addr) (c : Nat) (ys : List Int), e = .returned (.slice sa ys.length c) ∧ OI w' w.heap.size sa ys.length c ys ∧ ys.length ≤ 41) ∧ Drew w a len cap g w' := by
  have D0 := Drew.refl C0
  have hg := C0.lt
  have O0 : OwnI (w.alloc (.cells #[] 3)) w.heap.size (.slice (some ⟨w.heap.size, 0, none⟩) 0 0) [] := OwnI.made w _ (Nat.le_refl _)
  go_enter Try.func28, Try.ntmps28
  go_wp2_with fail
  refine (below_any _ _ _ _ _ _ (Drew.same D0 (by (repeat (first | (with_reducible exact D0) | (with_reducible refine Drew.setCell ?_ ?s1 _; case s1 => first | assumption | omega | (simp; omega)) | (with_reducible refine Drew.alloc ?_ _) | (with_reducible refine Drew.drewN ?_ _) | (with_reducible refine Drew.drew ?_)))))).mono ?_
  rintro e w1 ⟨⟨x, rfl, hx0, hx1⟩, D1⟩
  have O1 := O0.keepGS D1.grown hg
  replace D0 := Drew.trans2 D0 (by (repeat (first | (with_reducible exact D0) | (with_reducible refine Drew.setCell ?_ ?s1 _; case s1 => first | assumption | omega | (simp; omega)) | (with_reducible refine Drew.alloc ?_ _) | (with_reducible refine Drew.drewN ?_ _) | (with_reducible refine Drew.drew ?_)))) D1
  clear D1 O0
  go_wp2
  go_loopw [3, 4] (fun v i wr => ∃ (k : Nat) (zs : List Int), i = .int .i64 k ∧ zs.length + k ≤ 6 ∧ OwnI wr w.heap.size v zs ∧ Hid (∀ z ∈ zs, 0 ≤ z ∧ z ≤ 900) ∧ Drew w a len cap g wr) (fun _ i _ => (intOf i).toNat)
  case atStart => exact ⟨x.toNat, [], by rw [Int.toNat_of_nonneg hx0], by simp; omega, O1, by intro z hz; simp at hz, D0⟩
  case round =>
    obtain ⟨k, zs, rfl, hk, hown, hzs, D0⟩ := hrel
    by_cases hk0 : 0 < k
    · go_wp2_with fail
      refine (below_any _ _ _ _ _ _ (Drew.same D0 (by (repeat (first | (with_reducible exact D0) | (with_reducible refine Drew.setCell ?_ ?s1 _; case s1 => first | assumption | omega | (simp; omega)) | (with_reducible refine Drew.alloc ?_ _) | (with_reducible refine Drew.drewN ?_ _) | (with_reducible refine Drew.drew ?_)))))).mono ?_
      rintro e w7 ⟨⟨q, rfl, hq0, hq1⟩, D1⟩
      replace hown := hown.keepGS D1.grown hg
      replace D0 := D0.trans D1
      clear D1
      have hz7 := D0.size
      have hq2 : q ≤ 900 := by omega
      have hzl : zs.length ≤ 1099511627776 := by omega
      go_wp2_with (at_builtin; refine wpList_append_int rfl _ _ rfl w.heap.size _ zs rfl (hown.alloc _) _ _ rfl (new_cell0 _ _ _) hzl (Nat.le_trans hz7 (size_alloc_le _ _)) ?_)
      intro v' w8 hown8 hb8
      have D8 := (D0.alloc (.cells #[.int .i64 q] 3)).own hb8 (Nat.le_refl _)
      go_wp2
      go_roundw
      case rel => exact ⟨k - 1, zs ++ [q], by go_num, by simp; omega, hown8, fun z hz => by
        rcases List.mem_append.1 hz with hz | hz
        · exact hzs.out z hz
        · simp at hz; omega, D8⟩
      case measure => simp [intOf]; omega
    · obtain ⟨ra, rc, rfl, ho⟩ := OwnI.oi hown (fun z hz => by have := hzs.out z hz; omega)
      clear hown
      go_wp2_with fail
      refine (below_any _ _ _ _ _ _ (Drew.same D0 (by (repeat (first | (with_reducible exact D0) | (with_reducible refine Drew.setCell ?_ ?s1 _; case s1 => first | assumption | omega | (simp; omega)) | (with_reducible refine Drew.alloc ?_ _) | (with_reducible refine Drew.drewN ?_ _) | (with_reducible refine Drew.drew ?_)))))).mono ?_
      rintro e w9 ⟨⟨y, rfl, hy0, hy1⟩, D1⟩
      replace ho := ho.keepGS D1.grown hg
      replace D0 := D0.trans D1
      clear D1
      have Hzs : Hid (∀ z ∈ zs, -9223372036854775808 ≤ z ∧ z ≤ 9223372036854775807) := fun z hz => by have := hzs.out z hz; omega
      by_cases hy : y = 0
      · subst hy
        by_cases hz0 : 0 < zs.length
        · obtain ⟨gl, rfl, hgl⟩ := block_ne _ ho.1 hz0
          go_wp2_with fail
          refine (below_any _ _ _ _ _ _ (Drew.same D0 (by (repeat (first | (with_reducible exact D0) | (with_reducible refine Drew.setCell ?_ ?s1 _; case s1 => first | assumption | omega | (simp; omega)) | (with_reducible refine Drew.alloc ?_ _) | (with_reducible refine Drew.drewN ?_ _) | (with_reducible refine Drew.drew ?_)))))).mono ?_
          rintro e wa ⟨⟨q, rfl, hq0, hq1⟩, D1⟩
          obtain ⟨qn, rfl⟩ : ∃ qn : Nat, q = (qn : Int) := ⟨q.toNat, by omega⟩
          have hqz : qn < zs.length := by omega
          replace ho := OI.keepGS (OI.keep ho (by (repeat (first | (with_reducible exact Below.refl _ _) | (with_reducible assumption) | (with_reducible refine Below.setCell ?_ ?side _; case side => first | (with_reducible exact Nat.le_refl _) | (simp; done) | (simp only [World.size_alloc, World.size_setCell, World.size_drew, World.heap_drewN] at *; omega)) | (with_reducible refine below_alloc ?_ _) | (with_reducible refine Below.drew ?_) | (with_reducible refine below_drewN ?_) | (with_reducible refine below_via (by assumption) ?_))))) D1.grown hg
          replace D0 := Drew.trans2 D0 (by (repeat (first | (with_reducible exact D0) | (with_reducible refine Drew.setCell ?_ ?s1 _; case s1 => first | assumption | omega | (simp; omega)) | (with_reducible refine Drew.alloc ?_ _) | (with_reducible refine Drew.drewN ?_ _) | (with_reducible refine Drew.drew ?_)))) D1
          clear D1
          go_wp2_with fail
          refine (raw_any _ _ _ _ _ (Drew.same D0 (by (repeat (first | (with_reducible exact D0) | (with_reducible refine Drew.setCell ?_ ?s1 _; case s1 => first | assumption | omega | (simp; omega)) | (with_reducible refine Drew.alloc ?_ _) | (with_reducible refine Drew.drewN ?_ _) | (with_reducible refine Drew.drew ?_)))))).mono ?_
          rintro e wb ⟨⟨r, rfl, hr0, hr1⟩, D1⟩
          replace ho := OI.keepGS (OI.keep ho (by (repeat (first | (with_reducible exact Below.refl _ _) | (with_reducible assumption) | (with_reducible refine Below.setCell ?_ ?side _; case side => first | (with_reducible exact Nat.le_refl _) | (simp; done) | (simp only [World.size_alloc, World.size_setCell, World.size_drew, World.heap_drewN] at *; omega)) | (with_reducible refine below_alloc ?_ _) | (with_reducible refine Below.drew ?_) | (with_reducible refine below_drewN ?_) | (with_reducible refine below_via (by assumption) ?_))))) D1.grown hg
          replace D0 := Drew.trans2 D0 (by (repeat (first | (with_reducible exact D0) | (with_reducible refine Drew.setCell ?_ ?s1 _; case s1 => first | assumption | omega | (simp; omega)) | (with_reducible refine Drew.alloc ?_ _) | (with_reducible refine Drew.drewN ?_ _) | (with_reducible refine Drew.drew ?_)))) D1
          clear D1
          obtain ⟨g1, x1, e1, hB1, hl1, hc1, hf1, hb1, hx1, hst1⟩ := OI.at_w ho (k := qn) hqz
          injection e1 with e1
          injection e1 with e1
          subst e1
          go_wp2
          all_goals
            go_ret
            have ho9 := hst1 r ⟨hr0, hr1⟩
            have e9 : (zs.set qn r).length = zs.length := List.length_set
            exact ⟨⟨_, _, zs.set qn r, by rw [e9]; rfl, by rw [e9]; exact ho9, by rw [e9]; omega⟩, D0.setCell (by omega) _⟩
        · go_wp2
          go_ret
          exact ⟨⟨_, _, zs, rfl, ho, by omega⟩, D0⟩
      · by_cases hy1 : y = 1
        · subst hy1
          go_wp2_with fail
          refine (below_any _ _ _ _ _ _ (Drew.same D0 (by (repeat (first | (with_reducible exact D0) | (with_reducible refine Drew.setCell ?_ ?s1 _; case s1 => first | assumption | omega | (simp; omega)) | (with_reducible refine Drew.alloc ?_ _) | (with_reducible refine Drew.drewN ?_ _) | (with_reducible refine Drew.drew ?_)))))).mono ?_
          rintro e wa ⟨⟨q, rfl, hq0, hq1⟩, D1⟩
          replace ho := OI.keepGS (OI.keep ho (by (repeat (first | (with_reducible exact Below.refl _ _) | (with_reducible assumption) | (with_reducible refine Below.setCell ?_ ?side _; case side => first | (with_reducible exact Nat.le_refl _) | (simp; done) | (simp only [World.size_alloc, World.size_setCell, World.size_drew, World.heap_drewN] at *; omega)) | (with_reducible refine below_alloc ?_ _) | (with_reducible refine Below.drew ?_) | (with_reducible refine below_drewN ?_) | (with_reducible refine below_via (by assumption) ?_))))) D1.grown hg
          replace D0 := Drew.trans2 D0 (by (repeat (first | (with_reducible exact D0) | (with_reducible refine Drew.setCell ?_ ?s1 _; case s1 => first | assumption | omega | (simp; omega)) | (with_reducible refine Drew.alloc ?_ _) | (with_reducible refine Drew.drewN ?_ _) | (with_reducible refine Drew.drew ?_)))) D1
          clear D1
          all_goals
            by_cases hq : q = 0
            · subst hq
              go_wp2
              go_loopw [3] (fun v wr => ∃ zs : List Int, zs.length ≤ 41 ∧ OwnI wr w.heap.size v zs ∧ Hid (∀ z ∈ zs, 0 ≤ z ∧ z ≤ 900) ∧ Drew w a len cap g wr) (fun v _ => 42 - lenV v)
              case atStart => exact ⟨zs, by omega, ho.own, hzs, D0⟩
              case round =>
                clear ho D0 hzs
                obtain ⟨zs, hz, hown, hzs, D0⟩ := hrel
                obtain ⟨ra, rc, rfl, ho⟩ := OwnI.oi hown (fun z hz => by have := hzs.out z hz; omega)
                clear hown
                go_wp2_with fail
                refine (below_any _ _ _ _ _ _ (Drew.same D0 (by (repeat (first | (with_reducible exact D0) | (with_reducible refine Drew.setCell ?_ ?s1 _; case s1 => first | assumption | omega | (simp; omega)) | (with_reducible refine Drew.alloc ?_ _) | (with_reducible refine Drew.drewN ?_ _) | (with_reducible refine Drew.drew ?_)))))).mono ?_
                rintro e wc ⟨⟨q, rfl, hq0, hq1⟩, D1⟩
                replace ho := OI.keepGS (OI.keep ho (by (repeat (first | (with_reducible exact Below.refl _ _) | (with_reducible assumption) | (with_reducible refine Below.setCell ?_ ?side _; case side => first | (with_reducible exact Nat.le_refl _) | (simp; done) | (simp only [World.size_alloc, World.size_setCell, World.size_drew, World.heap_drewN] at *; omega)) | (with_reducible refine below_alloc ?_ _) | (with_reducible refine Below.drew ?_) | (with_reducible refine below_drewN ?_) | (with_reducible refine below_via (by assumption) ?_))))) D1.grown hg
                replace D0 := Drew.trans2 D0 (by (repeat (first | (with_reducible exact D0) | (with_reducible refine Drew.setCell ?_ ?s1 _; case s1 => first | assumption | omega | (simp; omega)) | (with_reducible refine Drew.alloc ?_ _) | (with_reducible refine Drew.drewN ?_ _) | (with_reducible refine Drew.drew ?_)))) D1
                clear D1
                all_goals
                  have hwz := D0.size
                  by_cases hlt : (zs.length : Int) < 40 + q
                  · have hzl : zs.length ≤ 1099511627776 := by omega
                    go_wp2_with (at_builtin; refine wpList_append_int rfl _ _ rfl w.heap.size _ zs rfl (ho.own.alloc _) _ _ rfl (new_cell0 _ _ _) hzl (Nat.le_trans hwz (size_alloc_le _ _)) ?_)
                    intro v' w8 hown8 hb8
                    have D8 := (D0.alloc (.cells #[.int .i64 50] 3)).own hb8 (Nat.le_refl _)
                    obtain ⟨rb, rcb, rfl, -⟩ := OwnI.oi hown8 (fun z hz => by
                      rcases List.mem_append.1 hz with hz | hz
                      · have := hzs.out z hz; omega
                      · simp at hz; omega)
                    go_wp2
                    go_roundw
                    case rel => exact ⟨zs ++ [50], by simp; omega, hown8, fun z hz => by
                      rcases List.mem_append.1 hz with hz | hz
                      · exact hzs.out z hz
                      · simp at hz; omega, D8⟩
                    case measure => simp [lenV]; omega
                  · go_wp2
                    go_ret
                    exact ⟨⟨_, _, zs, rfl, ho, by omega⟩, D0⟩
            · go_wp2
              go_ret
              exact ⟨⟨_, _, zs, rfl, ho, by omega⟩, D0⟩
        · go_wp2
          go_ret
          exact ⟨⟨_, _, zs, rfl, ho, by omega⟩, D0⟩

set_option maxRecDepth 100000 in
set_option maxHeartbeats 3200000 in
theorem drawSplit_any (a : Option Addr) (len cap : Nat) (xs : List Int) (w : World) (S0 : Bs w w.heap.size a len xs) : Calls Try.prog 11 #[.slice a len cap] w fun e w' =>
    (∃ (n : Int) (sa : Option Addr) (sc : Nat) (ys : List Int), e = .returned (.tuple #[.int .i64 n, .slice sa ys.length sc]) ∧ (-9223372036854775808 ≤ n ∧ n ≤ 9223372036854775807) ∧ IS w' w'.heap.size sa ys.length ys ∧ ys.length ≤ 41) ∧ Below w.heap.size w w' := by
  go_enter Try.func11, Try.ntmps11
  go_wp2_with fail
  refine (new_any _ _ _ xs _ S0).mono ?_
  rintro e w1 ⟨rfl, C1, H0⟩
  have D0 := Drew.refl C1
  go_wp2_with fail
  refine (l16Amt_any _ _ _ _ _ (Drew.same D0 (by (repeat (first | (with_reducible exact D0) | (with_reducible refine Drew.setCell ?_ ?s1 _; case s1 => first | assumption | omega | (simp; omega)) | (with_reducible refine Drew.alloc ?_ _) | (with_reducible refine Drew.drewN ?_ _) | (with_reducible refine Drew.drew ?_)))))).mono ?_
  rintro e w2 ⟨⟨n, rfl, hn0, hn1⟩, D1⟩
  replace D0 := D0.trans D1
  clear D1
  go_wp2_with fail
  refine (l16Draw_any _ _ _ _ _ (Drew.same D0 (by (repeat (first | (with_reducible exact D0) | (with_reducible refine Drew.setCell ?_ ?s1 _; case s1 => first | assumption | omega | (simp; omega)) | (with_reducible refine Drew.alloc ?_ _) | (with_reducible refine Drew.drewN ?_ _) | (with_reducible refine Drew.drew ?_)))))).mono ?_
  rintro e w3 ⟨⟨sa, c, ys, rfl, ho, hy⟩, D1⟩
  replace D0 := Drew.trans2 D0 (by (repeat (first | (with_reducible exact D0) | (with_reducible refine Drew.setCell ?_ ?s1 _; case s1 => first | assumption | omega | (simp; omega)) | (with_reducible refine Drew.alloc ?_ _) | (with_reducible refine Drew.drewN ?_ _) | (with_reducible refine Drew.drew ?_)))) D1
  clear D1
  all_goals
    go_wp2
    go_ret2
    exact ⟨⟨n, sa, c, ys, rfl, ⟨hn0, hn1⟩, ho.is, hy⟩, Drew.below H0 D0⟩

end Go.Proofs.Ytfijgegegfpfkaa
