/- Events: the program writes one. -/
import Derived.Test.YtafbdbefmlgioaaGreatDoorEvI
import Derived.Test.YtafbdbefmlgioaaGreatDoorOwn
import Derived.Deep.RegionWith
namespace Go.Proofs.YtafbdbefmlgioaaGreatDoor
open Go.RowKit
set_option linter.unusedVariables false
set_option linter.unusedSimpArgs false

def evVal (key ch too amt fee : Int) (j : Nat) : Int := ([key, ch, too, amt, fee][j - 1]?).getD 0
theorem evVal_mem (key ch too amt fee : Int) (j : Nat) (h : j ∈ [1, 2, 3, 4, 5]) : evVal key ch too amt fee j ∈ [key, ch, too, amt, fee] := by
  simp at h
  rcases h with rfl | rfl | rfl | rfl | rfl <;> simp [evVal]
theorem BoxE.keepG {w w' : World} {b r : Nat} {k key ch too amt fee : Int} {yes : Bool} (h : BoxE b k key ch too amt fee yes w) (c : w.grownBy w' (some r)) (hne : b ≠ r) : BoxE b k key ch too amt fee yes w' := by
  obtain ⟨h0, h1, h2, h3, h4, h5, h6⟩ := h
  have n : ∀ o : Nat, some (⟨b, o, none⟩ : Addr).block ≠ some r := fun o e => hne (by injection e)
  exact ⟨c.cell h0 (n 0), c.cell h1 (n 1), c.cell h2 (n 2), c.cell h3 (n 3), c.cell h4 (n 4), c.cell h5 (n 5), c.cell h6 (n 6)⟩
theorem BoxE.at_ {w : World} {b : Nat} {k key ch too amt fee : Int} {yes : Bool} (h : BoxE b k key ch too amt fee yes w) (j : Nat) (hj : j ∈ [1, 2, 3, 4, 5]) : w.cell? ⟨b, j, none⟩ = some (.int .i64 (evVal key ch too amt fee j)) := by
  obtain ⟨h0, h1, h2, h3, h4, h5, h6⟩ := h
  simp at hj
  rcases hj with rfl | rfl | rfl | rfl | rfl <;> assumption
theorem cell_keep0 {w : World} {b o : Nat} {v : Value} (h : w.cell? ⟨b, o, none⟩ = some v) : b < w.heap.size := Lib.lt_of_cell h
set_option maxRecDepth 100000 in
set_option maxHeartbeats 6400000 in
theorem evText_impl (k key ch too amt fee : Int) (yes : Bool) (w : World) (T0 : PM w) : Calls Tryz.prog 46 #[.agg #[.int .i64 k, .int .i64 key, .int .i64 ch, .int .i64 too, .int .i64 amt, .int .i64 fee, .bool yes]] w fun e w' => e = .returned (.string (S (evText k key ch too amt fee yes))) ∧ Below w.heap.size w w' := by
  cases hok : evOk k key ch too amt fee yes with
  | false =>
    have hr : Hid (evText k key ch too amt fee yes = []) := by unfold Hid evText; rw [hok]; rfl
    go_enter Tryz.func46, Tryz.ntmps46
    go_wp2_with (go_at_call 83; refine (evOk_impl _ _ _ _ _ _ _ _).mono ?_; rintro e w1 ⟨he, b1⟩; rw [hok] at he; subst he)
    go_ret
    exact ⟨by rw [hr.out]; rfl, below_via b1 (by (repeat (first | (with_reducible exact Below.refl _ _) | (with_reducible assumption) | (with_reducible refine Below.setCell ?_ ?side _; case side => first | (with_reducible exact Nat.le_refl _) | (simp; done) | (simp only [World.size_alloc, World.size_setCell, World.size_drew, World.heap_drewN] at *; omega)) | (with_reducible refine below_alloc ?_ _) | (with_reducible refine Below.drew ?_) | (with_reducible refine below_drewN ?_) | (with_reducible refine below_via (by assumption) ?_))))⟩
  | true =>
    have hk := evOk_kind hok
    obtain ⟨n, rfl⟩ : ∃ n : Nat, k = (n : Int) := ⟨k.toNat, by omega⟩
    have hin := Lib.hid (evOk_in hok)
    have hwl := evWord_len (n : Int)
    have hfin : Hid (evText (n : Int) key ch too amt fee yes = evWord (n : Int) ++ tailT (sel (hasF (n : Int)) [key, ch, too, amt, fee]) ++ evEnd (n : Int) yes) := by unfold Hid evText; rw [hok]; rfl
    have Hok := Lib.hid hok
    clear hok
    go_enter Tryz.func46, Tryz.ntmps46
    go_wp2_with (go_at_call 83; refine (evOk_impl _ _ _ _ _ _ _ _).mono ?_; rintro e w1 ⟨he, b1⟩; rw [Hok.out] at he; subst he; obtain ⟨hc0, hf0, hs0, hz0⟩ := brules b1)
    have B1 := below_via b1 (by (repeat (first | (with_reducible exact Below.refl _ _) | (with_reducible assumption) | (with_reducible refine Below.setCell ?_ ?side _; case side => first | (with_reducible exact Nat.le_refl _) | (simp; done) | (simp only [World.size_alloc, World.size_setCell, World.size_drew, World.heap_drewN] at *; omega)) | (with_reducible refine below_alloc ?_ _) | (with_reducible refine Below.drew ?_) | (with_reducible refine below_drewN ?_) | (with_reducible refine below_via (by assumption) ?_))) : Below w.heap.size w _)
    have d0 : BoxE w.heap.size n key ch too amt fee yes w1 := ⟨by rw [hc0 _ _ (by simp)]; simp [go_sem], by rw [hc0 _ _ (by simp)]; simp [go_sem], by rw [hc0 _ _ (by simp)]; simp [go_sem], by rw [hc0 _ _ (by simp)]; simp [go_sem], by rw [hc0 _ _ (by simp)]; simp [go_sem], by rw [hc0 _ _ (by simp)]; simp [go_sem], by rw [hc0 _ _ (by simp)]; simp [go_sem]⟩
    have D0 := Lib.hid d0
    obtain ⟨d0, -, -, -, -, -, -⟩ := d0
    have hlt : (n : Int) < 12 := by omega
    have hlt0 : (0 : Int) ≤ (n : Int) := by omega
    have hwz : w.heap.size < w1.heap.size := by have := b1.size; simp at this; omega
    clear hc0 hf0 hs0 hz0
    go_region_with ((go_at_call 49; refine (splitWords _ (T0.keep (by (repeat (first | (with_reducible exact Below.refl _ _) | (with_reducible assumption) | (with_reducible refine Below.setCell ?_ ?side _; case side => first | (with_reducible exact Nat.le_refl _) | (simp; done) | (simp only [World.size_alloc, World.size_setCell, World.size_drew, World.heap_drewN] at *; omega)) | (with_reducible refine below_alloc ?_ _) | (with_reducible refine Below.drew ?_) | (with_reducible refine below_drewN ?_) | (with_reducible refine below_via (by assumption) ?_))))).mx).mono ?_; rintro e w2 ⟨⟨g, off, c, rfl, cw⟩, b2⟩; replace cw := cw n (by omega); have b3 := below_via b2 (by (repeat (first | (with_reducible exact Below.refl _ _) | (with_reducible assumption) | (with_reducible refine Below.setCell ?_ ?side _; case side => first | (with_reducible exact Nat.le_refl _) | (simp; done) | (simp only [World.size_alloc, World.size_setCell, World.size_drew, World.heap_drewN] at *; omega)) | (with_reducible refine below_alloc ?_ _) | (with_reducible refine Below.drew ?_) | (with_reducible refine below_drewN ?_) | (with_reducible refine below_via (by assumption) ?_))) : Below w1.heap.size w1 _); have d1 := cell_keep b3 d0))
    all_goals
      have B2 := below_via b3 B1
      have z2 := B2.size
      replace hwz : w.heap.size < w2.heap.size := Nat.lt_of_lt_of_le hwz b3.size
      have O0 := OwnS.one w2 w.heap.size z2 (S (evWord n))
      have D2 := D0.out.keep (below_alloc b3 (.cells #[.string (S (evWord n))] 9))
      have B3 := below_alloc B2 (.cells #[.string (S (evWord n))] 9)
      clear d0 d1 cw b1 B1 D0 B2 b2 b3
      go_wp2_with fail
      have g2 := cell_keep0 D2.1
      refine (numbers_impl _ w.heap.size _ D2.1 g2).mono ?_
      rintro e w3 ⟨⟨a3, rfl, F3, ha3⟩, b3⟩
      have O1 := OwnF.keep O0 b3
      have D3 := D2.keep b3
      replace B3 := below_via b3 B3
      have z23 : w2.heap.size < w3.heap.size := by have := b3.size; simp at this; omega
      replace ha3 : ∀ b o, a3 = some ⟨b, o, none⟩ → b ≠ w2.heap.size := fun b o h => by have := ha3 b o h; simp at this; omega
      have z02 : w.heap.size < w2.heap.size := by omega
      clear O0 D2 g2
      go_wp2_with fail
      obtain ⟨P, hP⟩ : ∃ P, P = sel (hasF (n : Int)) [1, 2, 3, 4, 5] := ⟨_, rfl⟩
      rw [← hP] at F3
      rw [← hP]
      have hPm : ∀ x ∈ P, x ∈ [1, 2, 3, 4, 5] := fun x hx => by rw [hP] at hx; exact sel_mem _ _ x hx
      have hPl : P.length ≤ 5 := by rw [hP]; exact sel_len _ _
      have hsel : Hid (sel (hasF (n : Int)) [key, ch, too, amt, fee] = P.map (evVal key ch too amt fee)) := by unfold Hid; rw [hP, sel_map]; rfl
      have hvin : ∀ x ∈ P, 0 ≤ evVal key ch too amt fee x ∧ evVal key ch too amt fee x ≤ 1125899906842624 := fun x hx => hin.out _ (evVal_mem _ _ _ _ _ x (hPm x hx))
      have Hfin : Hid (evText (n : Int) key ch too amt fee yes = evWord (n : Int) ++ tailT (P.map (evVal key ch too amt fee)) ++ evEnd (n : Int) yes) := by unfold Hid; rw [hfin.out, hsel.out]
      have HPm := Lib.hid hPm
      have Hvin := Lib.hid hvin
      clear hP hsel hfin hPm hvin
      have D4 := Lib.hid D3
      clear D3
      have z3 := B3.size
      have T3 := T0.keep B3
      go_loopw [3, 5, 17] (fun v _ i wr => ∃ k : Nat, k ≤ P.length ∧ i = .int .i64 k ∧ OwnS wr w.heap.size v ([S (evWord (n : Int))] ++ (P.take k).map fun j => digS (evVal key ch too amt fee j)) ∧ Below w.heap.size w wr ∧ w3.grownBy wr (some w2.heap.size) ∧ (v.ownBlock = some w2.heap.size ∨ ∃ b, v.ownBlock = some b ∧ w3.heap.size ≤ b)) (fun _ _ i _ => P.length - (intOf i).toNat)
      case atStart => exact ⟨0, Nat.zero_le _, rfl, O1, B3, World.grownBy.refl _ _, .inl rfl⟩
      case round =>
        obtain ⟨k, hk, rfl, hown, hB, hG, hO⟩ := hrel
        have hkl : ([S (evWord (n : Int))] ++ (P.take k).map fun j => digS (evVal key ch too amt fee j)).length ≤ 1000 := by simp [List.length_take]; omega
        have hz := hB.size
        have z3r := hG.size
        have hDr : BoxE w.heap.size n key ch too amt fee yes wr := D4.out.keepG hG (by omega)
        by_cases hlt : k < P.length
        · obtain ⟨b, off, x, rfl, hb, hc, -, hx, hxs⟩ := FS.at_ F3 hlt
          have hxm := List.mem_of_getElem? hx.out
          have hc0 : wr.cell? ⟨b, off + k, none⟩ = some (.pointer (some ⟨w.heap.size, x, none⟩)) := by have := hc 0 _ rfl; rw [show off + k * 1 + 0 = off + k by omega] at this; exact hG.cell this (by have := ha3 b off rfl; intro h; injection h with h; exact this h)
          have hv := hDr.at_ x (HPm.out x hxm)
          have hx2 := Hvin.out x hxm
          obtain ⟨u, hu0⟩ : ∃ u : Nat, evVal key ch too amt fee x = (u : Int) := ⟨(evVal key ch too amt fee x).toNat, by omega⟩
          rw [hu0] at hv hx2
          have hu : u ≤ 1125899906842624 := by omega
          have hst2 : Hid ([S (evWord (n : Int))] ++ (P.take (k + 1)).map (fun j => digS (evVal key ch too amt fee j)) = ([S (evWord (n : Int))] ++ (P.take k).map fun j => digS (evVal key ch too amt fee j)) ++ [S (Lib.decDigits u)]) := by
            unfold Hid
            rw [hxs.out, List.map_append, ← List.append_assoc]
            simp [hu0, digS, digs]
          obtain ⟨L, hL⟩ : ∃ L, L = [S (evWord (n : Int))] ++ (P.take k).map fun j => digS (evVal key ch too amt fee j) := ⟨_, rfl⟩
          rw [← hL] at hown hkl
          have HL := Lib.hid hL
          have T4 := T0.pow.keep hB
          have HDr := Lib.hid hDr
          clear hDr
          clear hc hL hu0 ha3
          go_wp2_with fail
          refine (numText_impl u _ hu T4).mono ?_
          rintro e w4 ⟨rfl, b4⟩
          have hown2 := OwnF.keep hown b4
          have hB2 := below_via b4 hB
          have hz2 := hB2.size
          have hG2 := grown_trans hG (grown_of_below w2.heap.size b4)
          go_wp2_with (at_builtin; refine wpList_append_at infoString Tryz.underlying109 rfl (by decide) (by decide) lenS oneS rfl _ _ rfl w.heap.size _ L rfl (hown2.alloc _) _ (S (Lib.decDigits u)) rfl (new_cells _ _ _ rfl) (by omega) (Nat.le_trans hz2 (size_alloc_le _ _)) ?_)
          intro v' w5 hown5 hb5 hg5 ho5
          have hG5 := grow_step (grown_trans hG2 (grown_of_below w2.heap.size (below_alloc (Below.refl _ _) (.cells #[.string (S (Lib.decDigits u))] 9)))) hg5 hO
          have hO5 : v'.ownBlock = some w2.heap.size ∨ ∃ b, v'.ownBlock = some b ∧ w3.heap.size ≤ b := by
            rcases ho5 with h | h
            · rw [h]; exact hO
            · exact .inr ⟨_, h, by have := hG2.size; simp; omega⟩
          go_wp2
          go_roundw
          case rel => exact ⟨k + 1, by omega, by go_num, by rw [hst2.out, ← HL.out]; exact hown5, (below_alloc hB2 _).trans hb5, hG5, hO5⟩
          case measure => simp [intOf]; omega
        · have hall : P.take k = P := List.take_of_length_le (by omega)
          rw [hall] at hown hkl
          obtain ⟨LL, hL⟩ : ∃ L, L = [S (evWord (n : Int))] ++ P.map fun j => digS (evVal key ch too amt fee j) := ⟨_, rfl⟩
          rw [← hL] at hown hkl
          have hJ : Hid (∀ r, Lib.join ((LL ++ r).map (·.data.toList)) [32] = evWord (n : Int) ++ tailT (P.map (evVal key ch too amt fee)) ++ Lib.joinTail [32] (r.map (·.data.toList))) := by
            intro r
            rw [hL]
            simp [digS, S, Lib.join_cons, tailT, Lib.joinTail, List.map_map, Function.comp_def]
          have hlen : (evWord (n : Int) ++ tailT (P.map (evVal key ch too amt fee))).length ≤ 200 := by
            have q := tailT_len (P.map (evVal key ch too amt fee)) (fun x hx => by obtain ⟨y, hy, rfl⟩ := List.mem_map.1 hx; exact Hvin.out y hy)
            rw [List.length_append]
            rw [List.length_map] at q
            omega
          clear hall hL
          obtain ⟨d40, -, -, -, -, -, d46⟩ := hDr
          have B9 := hB
          by_cases hn5 : (n : Int) = 5
          · have e5 : ((n : Int) == 5) = true := by simp [hn5]
            have hE : evEnd (n : Int) yes = if yes = true then [32, 121, 101, 115] else [32, 110, 111] := by unfold evEnd; rw [if_pos hn5]
            rw [hE] at Hfin
            have Hfin := Lib.hid Hfin.out
            clear hE
            cases yes with
            | true =>
              have hr : Hid (S (evText (n : Int) key ch too amt fee true) = S (Lib.join ((LL ++ [(⟨#[121, 101, 115]⟩ : ByteArray)]).map (·.data.toList)) [32])) := by unfold Hid; rw [Hfin.out, hJ.out]; rfl
              have hjl : (Lib.join ((LL ++ [(⟨#[121, 101, 115]⟩ : ByteArray)]).map (·.data.toList)) [32]).length ≤ 1000 := by rw [hJ.out, List.length_append]; simp [Lib.joinTail] at *; omega
              have Hjl := Lib.hid hjl
              clear hjl hlen
              go_wp2_with (at_builtin; refine wpList_append_f infoString Tryz.underlying109 rfl (by decide) (by decide) lenS oneS rfl _ _ rfl w.heap.size _ LL rfl (hown.alloc _) _ (⟨#[121, 101, 115]⟩ : ByteArray) rfl (new_cells _ _ _ rfl) (by omega) (Nat.le_trans hz (size_alloc_le _ _)) ?_)
              intro v' w5 hown5 hb5 _
              have B5 := (below_alloc B9 (.cells #[.string ⟨#[121, 101, 115]⟩] 9)).trans hb5
              go_wp2_with fail
              refine (join_own _ (LL ++ [(⟨#[121, 101, 115]⟩ : ByteArray)]) ⟨#[32]⟩ _ _ hown5 (by simp; omega) (Nat.le_trans Hjl.out (by omega))).mono ?_
              rintro e w7 ⟨rfl, b7⟩
              go_wp2
              go_ret
              exact ⟨by rw [hr.out, List.map_append]; rfl, below_via b7 B5⟩
            | false =>
              have hr : Hid (S (evText (n : Int) key ch too amt fee false) = S (Lib.join ((LL ++ [(⟨#[110, 111]⟩ : ByteArray)]).map (·.data.toList)) [32])) := by unfold Hid; rw [Hfin.out, hJ.out]; rfl
              have hjl : (Lib.join ((LL ++ [(⟨#[110, 111]⟩ : ByteArray)]).map (·.data.toList)) [32]).length ≤ 1000 := by rw [hJ.out, List.length_append]; simp [Lib.joinTail] at *; omega
              have Hjl := Lib.hid hjl
              clear hjl hlen
              go_wp2_with (at_builtin; refine wpList_append_f infoString Tryz.underlying109 rfl (by decide) (by decide) lenS oneS rfl _ _ rfl w.heap.size _ LL rfl (hown.alloc _) _ (⟨#[110, 111]⟩ : ByteArray) rfl (new_cells _ _ _ rfl) (by omega) (Nat.le_trans hz (size_alloc_le _ _)) ?_)
              intro v' w5 hown5 hb5 _
              have B5 := (below_alloc B9 (.cells #[.string ⟨#[110, 111]⟩] 9)).trans hb5
              go_wp2_with fail
              refine (join_own _ (LL ++ [(⟨#[110, 111]⟩ : ByteArray)]) ⟨#[32]⟩ _ _ hown5 (by simp; omega) (Nat.le_trans Hjl.out (by omega))).mono ?_
              rintro e w7 ⟨rfl, b7⟩
              go_wp2
              go_ret
              exact ⟨by rw [hr.out, List.map_append]; rfl, below_via b7 B5⟩
          · have e5 : ((n : Int) == 5) = false := by simp [hn5]
            have hE : evEnd (n : Int) yes = [] := by unfold evEnd; rw [if_neg hn5]
            rw [hE] at Hfin
            have hr : Hid (S (evText (n : Int) key ch too amt fee yes) = S (Lib.join (LL.map (·.data.toList)) [32])) := by have := hJ.out []; rw [List.append_nil] at this; unfold Hid; rw [Hfin.out, this]; rfl
            have hjl : (Lib.join (LL.map (·.data.toList)) [32]).length ≤ 1000 := by have := hJ.out []; rw [List.append_nil] at this; rw [this]; simp [Lib.joinTail] at *; omega
            have Hjl := Lib.hid hjl
            clear hjl hlen hE
            go_wp2_with fail
            refine (join_own _ LL ⟨#[32]⟩ _ _ hown (by omega) (Nat.le_trans Hjl.out (by omega))).mono ?_
            rintro e w7 ⟨rfl, b7⟩
            go_wp2
            go_ret
            exact ⟨by rw [hr.out]; rfl, below_via b7 B9⟩

end Go.Proofs.YtafbdbefmlgioaaGreatDoor
