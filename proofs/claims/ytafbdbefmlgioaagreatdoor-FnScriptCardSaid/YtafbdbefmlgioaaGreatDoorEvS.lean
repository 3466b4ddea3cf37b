/- Events: the reference writes one. -/
import Derived.Test.YtafbdbefmlgioaaGreatDoorEvB
import Derived.Test.YtafbdbefmlgioaaGreatDoorEvT
import Derived.Test.YtafbdbefmlgioaaGreatDoorBText
import Derived.Deep.RegionHeld3
namespace Go.Proofs.YtafbdbefmlgioaaGreatDoor
open Go.RowKit
set_option linter.unusedVariables false
set_option linter.unusedSimpArgs false

abbrev StS := FS (fun (x : ByteArray) => [Value.string x]) 1 (fun _ => True)
theorem FS.lit1 {α : Type} (f : α → Value) (w : World) (xs : List α) (cs : Array Value) (t : TypeId) (h : cs.toList = xs.map f) (n : Nat) (hl : xs.length = n) (hn : n ≤ 1048576) (g : Nat) (hg : w.heap.size = g) :
    FS (fun x => [f x]) 1 (fun _ => True) (w.alloc (.cells cs t)) (w.alloc (.cells cs t)).heap.size (some ⟨g, 0, none⟩) n xs := by
  subst hg
  refine ⟨hl, by unfold maxLen; omega, by simp, fun i x hx => ⟨w.heap.size, 0, rfl, by simp, fun j v hv => ?_⟩⟩
  match j, hv with
  | 0, hv =>
    simp at hv
    subst hv
    have := new_cells w cs t h i (f x) (by rw [List.getElem?_map, hx]; rfl)
    rw [show 0 + i * 1 + 0 = i by omega]
    simpa using this
  | j + 1, hv => simp at hv
theorem l04Words_any (w : World) : Calls Tryz.prog 112 #[] w fun e w' => (∃ g, e = .returned (.slice (some ⟨g, 0, none⟩) 12 12) ∧ StS w' w'.heap.size (some ⟨g, 0, none⟩) 12 (evWords.map S)) ∧ Below w.heap.size w w' := by
  go_enter Tryz.func112, Tryz.ntmps112
  go_wp2
  refine bodyPost_ret (by simp only [results, Tryz.results112]; go_simp; rfl) rfl ?_
  exact ⟨⟨_, rfl, FS.lit1 Value.string _ _ _ _ rfl 12 rfl (by decide) _ rfl⟩, by (repeat (first | (with_reducible exact Below.refl _ _) | (with_reducible assumption) | (with_reducible refine Below.setCell ?_ ?side _; case side => first | (with_reducible exact Nat.le_refl _) | (simp; done) | (simp only [World.size_alloc, World.size_setCell, World.size_drew, World.heap_drewN] at *; omega)) | (with_reducible refine below_alloc ?_ _) | (with_reducible refine Below.drew ?_) | (with_reducible refine below_drewN ?_) | (with_reducible refine below_via (by assumption) ?_)))⟩
theorem StS.cell {w : World} {B g n : Nat} {xs : List ByteArray} (h : StS w B (some ⟨g, 0, none⟩) n xs) (j : Nat) (v : ByteArray) (hj : xs[j]? = some v) : w.cell? ⟨g, j, none⟩ = some (.string v) := by
  obtain ⟨b, off, e, hb, hc⟩ := h.2.2.2 j v hj
  injection e with e
  injection e with e1 e2
  subst e1
  subst e2
  have := hc 0 _ rfl
  rw [show 0 + j * 1 + 0 = j by omega] at this
  exact this
/-- an event in a box of its own -/
def BoxE (b : Nat) (k key ch too amt fee : Int) (yes : Bool) (w : World) : Prop :=
  w.cell? ⟨b, 0, none⟩ = some (.int .i64 k) ∧ w.cell? ⟨b, 1, none⟩ = some (.int .i64 key) ∧ w.cell? ⟨b, 2, none⟩ = some (.int .i64 ch) ∧ w.cell? ⟨b, 3, none⟩ = some (.int .i64 too) ∧ w.cell? ⟨b, 4, none⟩ = some (.int .i64 amt) ∧ w.cell? ⟨b, 5, none⟩ = some (.int .i64 fee) ∧ w.cell? ⟨b, 6, none⟩ = some (.bool yes)
theorem BoxE.keep {w w' : World} {b : Nat} {k key ch too amt fee : Int} {yes : Bool} (h : BoxE b k key ch too amt fee yes w) (c : Below w.heap.size w w') : BoxE b k key ch too amt fee yes w' := by
  obtain ⟨h0, h1, h2, h3, h4, h5, h6⟩ := h
  exact ⟨cell_keep c h0, cell_keep c h1, cell_keep c h2, cell_keep c h3, cell_keep c h4, cell_keep c h5, cell_keep c h6⟩
theorem evWord_get (k : Nat) (h : k < 12) : (evWords.map S)[k]? = some (S (evWord (k : Int))) := by
  have hl : evWords.length = 12 := rfl
  rw [List.getElem?_map]
  unfold evWord
  rw [show ((k : Int)).toNat = k from rfl, List.getElem?_eq_getElem (by omega)]
  rfl

set_option maxRecDepth 100000 in
set_option maxHeartbeats 3200000 in
theorem evText_spec (k key ch too amt fee : Int) (yes : Bool) (w : World) : Calls Tryz.prog 114 #[.agg #[.int .i64 k, .int .i64 key, .int .i64 ch, .int .i64 too, .int .i64 amt, .int .i64 fee, .bool yes]] w fun e w' => e = .returned (.string (S (evText k key ch too amt fee yes))) ∧ Below w.heap.size w w' := by
  cases hok : evOk k key ch too amt fee yes with
  | false =>
    have hr : Hid (evText k key ch too amt fee yes = []) := by unfold Hid evText; rw [hok]; rfl
    go_enter Tryz.func114, Tryz.ntmps114
    go_wp2_with (go_at_call 116; refine (evOk_spec _ _ _ _ _ _ _ _).mono ?_; rintro e w1 ⟨he, b1⟩; rw [hok] at he; subst he)
    go_ret
    exact ⟨by rw [hr.out]; rfl, below_via b1 (by (repeat (first | (with_reducible exact Below.refl _ _) | (with_reducible assumption) | (with_reducible refine Below.setCell ?_ ?side _; case side => first | (with_reducible exact Nat.le_refl _) | (simp; done) | (simp only [World.size_alloc, World.size_setCell, World.size_drew, World.heap_drewN] at *; omega)) | (with_reducible refine below_alloc ?_ _) | (with_reducible refine Below.drew ?_) | (with_reducible refine below_drewN ?_) | (with_reducible refine below_via (by assumption) ?_))))⟩
  | true =>
    have hk := evOk_kind hok
    obtain ⟨n, rfl⟩ : ∃ n : Nat, k = (n : Int) := ⟨k.toNat, by omega⟩
    have hin := Lib.hid (evOk_in hok)
    have hw := evWord_get n (by omega)
    have hwl := evWord_len (n : Int)
    have h5 : Hid (∃ h0 h1 h2 h3 h4, hasF (n : Int) = [h0, h1, h2, h3, h4, decide ((n : Int) = 5)]) := by
      unfold Hid hasF
      (repeat' split) <;> (first | (exact ⟨_, _, _, _, _, by rw [decide_eq_true (by assumption)]⟩) | (exact ⟨_, _, _, _, _, by rw [decide_eq_false (by omega)]⟩))
    obtain ⟨h0, h1, h2, h3, h4, hh⟩ := h5.out
    obtain ⟨h5', H5⟩ : ∃ b, b = decide ((n : Int) = 5) := ⟨_, rfl⟩
    rw [← H5] at hh
    replace H5 := Lib.hid H5
    have hfin : Hid (evText (n : Int) key ch too amt fee yes = evWord (n : Int) ++ tailT (sel (hasF (n : Int)) [key, ch, too, amt, fee]) ++ evEnd (n : Int) yes) := by unfold Hid evText; rw [hok]; rfl
    have Hok := Lib.hid hok
    clear hok h5
    go_enter Tryz.func114, Tryz.ntmps114
    go_wp2_with (go_at_call 116; refine (evOk_spec _ _ _ _ _ _ _ _).mono ?_; rintro e w1 ⟨he, b1⟩; rw [Hok.out] at he; subst he; obtain ⟨hc0, hf0, hs0, hz0⟩ := brules b1)
    have B1 := below_via b1 (by (repeat (first | (with_reducible exact Below.refl _ _) | (with_reducible assumption) | (with_reducible refine Below.setCell ?_ ?side _; case side => first | (with_reducible exact Nat.le_refl _) | (simp; done) | (simp only [World.size_alloc, World.size_setCell, World.size_drew, World.heap_drewN] at *; omega)) | (with_reducible refine below_alloc ?_ _) | (with_reducible refine Below.drew ?_) | (with_reducible refine below_drewN ?_) | (with_reducible refine below_via (by assumption) ?_))) : Below w.heap.size w _)
    have B1 := below_via b1 (by (repeat (first | (with_reducible exact Below.refl _ _) | (with_reducible assumption) | (with_reducible refine Below.setCell ?_ ?side _; case side => first | (with_reducible exact Nat.le_refl _) | (simp; done) | (simp only [World.size_alloc, World.size_setCell, World.size_drew, World.heap_drewN] at *; omega)) | (with_reducible refine below_alloc ?_ _) | (with_reducible refine Below.drew ?_) | (with_reducible refine below_drewN ?_) | (with_reducible refine below_via (by assumption) ?_))) : Below w.heap.size w _)
    have d0 : BoxE w.heap.size n key ch too amt fee yes w1 := ⟨by rw [hc0 _ _ (by simp)]; simp [go_sem], by rw [hc0 _ _ (by simp)]; simp [go_sem], by rw [hc0 _ _ (by simp)]; simp [go_sem], by rw [hc0 _ _ (by simp)]; simp [go_sem], by rw [hc0 _ _ (by simp)]; simp [go_sem], by rw [hc0 _ _ (by simp)]; simp [go_sem], by rw [hc0 _ _ (by simp)]; simp [go_sem]⟩
    have D0 := Lib.hid d0
    obtain ⟨d0, -, -, -, -, -, -⟩ := d0
    have hlt : (n : Int) < 12 := by omega
    have hlt0 : (0 : Int) ≤ (n : Int) := by omega
    clear hc0 hf0 hs0 hz0
    go_region_with ((go_at_call 112; refine (l04Words_any _).mono ?_; rintro e w2 ⟨⟨g, rfl, F⟩, b2⟩; have cw := StS.cell F n _ hw; have b3 := below_via b2 (by (repeat (first | (with_reducible exact Below.refl _ _) | (with_reducible assumption) | (with_reducible refine Below.setCell ?_ ?side _; case side => first | (with_reducible exact Nat.le_refl _) | (simp; done) | (simp only [World.size_alloc, World.size_setCell, World.size_drew, World.heap_drewN] at *; omega)) | (with_reducible refine below_alloc ?_ _) | (with_reducible refine Below.drew ?_) | (with_reducible refine below_drewN ?_) | (with_reducible refine below_via (by assumption) ?_))) : Below w1.heap.size w1 _); have d1 := cell_keep b3 d0))
    all_goals
      have D2 := Lib.hid (D0.out.keep b3)
      replace B1 := below_via b3 B1
      clear b1 b2 b3 d0 D0 F
      go_wp2_with fail
      refine (l04Has_any _ _).mono ?_
      rintro e w3 ⟨⟨g3, rfl, F3⟩, b3⟩
      rw [hh] at F3
      have d3 := D2.out.keep (below_via b3 (by (repeat (first | (with_reducible exact Below.refl _ _) | (with_reducible assumption) | (with_reducible refine Below.setCell ?_ ?side _; case side => first | (with_reducible exact Nat.le_refl _) | (simp; done) | (simp only [World.size_alloc, World.size_setCell, World.size_drew, World.heap_drewN] at *; omega)) | (with_reducible refine below_alloc ?_ _) | (with_reducible refine Below.drew ?_) | (with_reducible refine below_drewN ?_) | (with_reducible refine below_via (by assumption) ?_)))))
      have D3 := Lib.hid d3
      obtain ⟨d30, d31, d32, d33, d34, d35, d36⟩ := d3
      replace B1 := below_via b3 B1
      clear b3 d1 cw
      go_wp2_with fail
      have I1 := IS.lit w3 [key, ch, too, amt, fee] #[.int .i64 key, .int .i64 ch, .int .i64 too, .int .i64 amt, .int .i64 fee] 3 rfl (fun x hx => by have := hin.out x hx; omega) (by simp) 5 rfl _ rfl
      have F4 := FS.keep F3 (below_alloc (Below.refl _ _) (.cells #[.int .i64 key, .int .i64 ch, .int .i64 too, .int .i64 amt, .int .i64 fee] 3))
      have D4 := Lib.hid (D3.out.keep (below_alloc (Below.refl _ _) (.cells #[.int .i64 key, .int .i64 ch, .int .i64 too, .int .i64 amt, .int .i64 fee] 3)))
      have B4 := below_alloc B1 (.cells #[.int .i64 key, .int .i64 ch, .int .i64 too, .int .i64 amt, .int .i64 fee] 3)
      clear d30 d31 d32 d33 d34 d35 d36 D3 D2 B1 F3
      generalize w3.alloc (.cells #[.int .i64 key, .int .i64 ch, .int .i64 too, .int .i64 amt, .int .i64 fee] 3) = W1 at I1 F4 D4 B4 ⊢
      obtain ⟨Z, hZ⟩ : ∃ Z : Nat → ByteArray, Hid (∀ k, Z k = S (evWord (n : Int) ++ tailT (sel ([h0, h1, h2, h3, h4, h5'].take k) ([key, ch, too, amt, fee].take k)))) := ⟨fun k => _, fun k => rfl⟩
      have hZ0 : Hid (Z 0 = S (evWord (n : Int))) := by unfold Hid; rw [hZ.out]; simp [sel, tailT, Lib.joinTail]
      have hZl : ∀ k, (Z k).size ≤ 200 := fun k => by
        rw [hZ.out]
        have q1 := tailT_len (sel ([h0, h1, h2, h3, h4, h5'].take k) ([key, ch, too, amt, fee].take k)) (fun x hx => hin.out x (List.mem_of_mem_take (sel_mem _ _ x hx)))
        have q2 := sel_len ([h0, h1, h2, h3, h4, h5'].take k) ([key, ch, too, amt, fee].take k)
        rw [List.length_take, List.length_cons, List.length_cons, List.length_cons, List.length_cons, List.length_cons, List.length_nil] at q2
        simp only [S, ByteArray.size, List.size_toArray, List.length_append]
        omega
      have hfin2 : Hid (S (evText (n : Int) key ch too amt fee yes) = Z 5 ++ S (evEnd (n : Int) yes)) := by
        unfold Hid
        rw [hfin.out, hZ.out, S_append, hh]
        rfl
      clear hh hfin
      rw [← hZ0.out]
      go_loopw [3, 5, 6, 30] (fun v _ _ ix wr => ∃ k : Nat, k ≤ 5 ∧ ix = .int .i64 k ∧ v = .string (Z k) ∧ Below W1.heap.size W1 wr) (fun _ _ _ ix _ => 5 - (intOf ix).toNat)
      case atStart => exact ⟨0, Nat.zero_le _, rfl, rfl, Below.refl _ _⟩
      case round =>
        obtain ⟨k, hk, rfl, rfl, hB⟩ := hrel
        have hZk := hZl k
        by_cases hlt : k < 5
        · obtain ⟨b, off, x, e, hb, hc, hbd, hx, hxs⟩ := (IS.keep I1 hB).at_ hlt
          injection e with e
          injection e with e1 e2
          subst e1
          subst e2
          simp only [Nat.zero_add] at hc
          obtain ⟨hbk, hhb⟩ : ∃ c, [h0, h1, h2, h3, h4, h5'][k]? = some c := ⟨_, List.getElem?_eq_getElem (by simp; omega)⟩
          have cb := BoS.cell (FS.keep F4 hB) k hbk hhb
          have hx2 := hin.out x (List.mem_of_getElem? hx.out)
          obtain ⟨u, rfl⟩ : ∃ u : Nat, x = (u : Int) := ⟨x.toNat, by omega⟩
          have hu : u ≤ 1125899906842624 := by omega
          have hd := dec_len u hu
          have hd2 : (S (Lib.decDigits u)).size ≤ 20 := by have := hd.2; simpa [S, ByteArray.size] using this
          have hst := Lib.hid (sel_take _ _ k hbk (u : Int) hhb hx.out)
          have hZ32 : (Z k ++ { data := #[32] } : ByteArray).size ≤ 201 := by rw [ByteArray.size_append]; show (Z k).size + 1 ≤ _; omega
          have hk6 : (k : Int) < 6 := by omega
          clear hd hbd hhb
          cases hbk with
          | true =>
            have hne : Hid (Z k ++ { data := #[32] } ++ S (Lib.decDigits u) = Z (k + 1)) := by
              unfold Hid
              rw [hZ.out, hZ.out, hst.out, if_pos rfl, tailT_snoc, show ({ data := #[32] } : ByteArray) = S [32] from rfl, S_append, S_append]
              simp [digs]
            go_wp2_with (go_at_call 58; refine (numText_spec0 u hu _).mono ?_; rintro e w4 ⟨rfl, b4⟩)
            go_roundw
            case rel => exact ⟨k + 1, by omega, by go_num, by rw [hne.out], below_via b4 hB⟩
            case measure => simp [intOf]; omega
          | false =>
            have hne : Hid (Z k = Z (k + 1)) := by
              unfold Hid
              rw [hZ.out, hZ.out, hst.out]
              simp
            go_wp2_with fail
            go_roundw
            case rel => exact ⟨k + 1, by omega, by go_num, by rw [hne.out], hB⟩
            case measure => simp [intOf]; omega
        · obtain rfl : k = 5 := by omega
          have e5 : decide (((5 : Nat) : Int) < 5) = false := by decide
          have D5 := D4.out.keep hB
          obtain ⟨d30, d31, d32, d33, d34, d35, d36⟩ := D5
          have cb := BoS.cell (FS.keep F4 hB) 5 h5' rfl
          have B2 : Below w.heap.size w wr := B4.trans (hB.mono B4.size)
          cases h5' with
          | true =>
            have h9 : evEnd (n : Int) yes = if yes = true then [32, 121, 101, 115] else [32, 110, 111] := by unfold evEnd; rw [if_pos (of_decide_eq_true H5.out.symm)]
            cases yes with
            | true =>
              have hr : Hid (Z 5 ++ { data := #[32, 121, 101, 115] } = S (evText (n : Int) key ch too amt fee true)) := by unfold Hid; rw [hfin2.out, h9]; rfl
              clear h9
              go_wp2_with fail
              go_ret
              exact ⟨by rw [← hr.out]; rfl, by first | exact B2 | (repeat (first | (with_reducible exact Below.refl _ _) | (with_reducible assumption) | (with_reducible refine Below.setCell ?_ ?side _; case side => first | (with_reducible exact Nat.le_refl _) | (simp; done) | (simp only [World.size_alloc, World.size_setCell, World.size_drew, World.heap_drewN] at *; omega)) | (with_reducible refine below_alloc ?_ _) | (with_reducible refine Below.drew ?_) | (with_reducible refine below_drewN ?_) | (with_reducible refine below_via (by assumption) ?_)))⟩
            | false =>
              have hr : Hid (Z 5 ++ { data := #[32, 110, 111] } = S (evText (n : Int) key ch too amt fee false)) := by unfold Hid; rw [hfin2.out, h9]; rfl
              clear h9
              go_wp2_with fail
              go_ret
              exact ⟨by rw [← hr.out]; rfl, by first | exact B2 | (repeat (first | (with_reducible exact Below.refl _ _) | (with_reducible assumption) | (with_reducible refine Below.setCell ?_ ?side _; case side => first | (with_reducible exact Nat.le_refl _) | (simp; done) | (simp only [World.size_alloc, World.size_setCell, World.size_drew, World.heap_drewN] at *; omega)) | (with_reducible refine below_alloc ?_ _) | (with_reducible refine Below.drew ?_) | (with_reducible refine below_drewN ?_) | (with_reducible refine below_via (by assumption) ?_)))⟩
          | false =>
            have h9 : evEnd (n : Int) yes = [] := by unfold evEnd; rw [if_neg (of_decide_eq_false H5.out.symm)]
            have hr : Hid (Z 5 = S (evText (n : Int) key ch too amt fee yes)) := by unfold Hid; rw [hfin2.out, h9, S_append, List.append_nil]
            clear h9
            go_wp2_with fail
            go_ret
            exact ⟨by rw [← hr.out]; rfl, by first | exact B2 | (repeat (first | (with_reducible exact Below.refl _ _) | (with_reducible assumption) | (with_reducible refine Below.setCell ?_ ?side _; case side => first | (with_reducible exact Nat.le_refl _) | (simp; done) | (simp only [World.size_alloc, World.size_setCell, World.size_drew, World.heap_drewN] at *; omega)) | (with_reducible refine below_alloc ?_ _) | (with_reducible refine Below.drew ?_) | (with_reducible refine below_drewN ?_) | (with_reducible refine below_via (by assumption) ?_)))⟩

end Go.Proofs.YtafbdbefmlgioaaGreatDoor
