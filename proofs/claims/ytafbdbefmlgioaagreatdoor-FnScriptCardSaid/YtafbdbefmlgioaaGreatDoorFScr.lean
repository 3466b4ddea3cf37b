/- What is drawn: events that mostly go. -/
import Derived.Test.YtafbdbefmlgioaaGreatDoorDrAny
import Derived.Test.YtafbdbefmlgioaaGreatDoorScrI
namespace Go.Proofs.YtafbdbefmlgioaaGreatDoor
open Go.RowKit
set_option linter.unusedVariables false
set_option linter.unusedSimpArgs false

section
variable {α : Type} {enc : α → List Value} {sz : Nat} {E : TypeId} {w w' : World} {B : Nat} {v : Value} {xs : List α}
theorem OwnF.lit (w : World) (B : Nat) (hB : B ≤ w.heap.size) (cs : Array Value) (xs : List α) (henc : ∀ x, (enc x).length = sz) (h : cs.toList = xs.flatMap enc) (n : Nat) (hn : xs.length = n) (hm : n ≤ 1000) : OwnF enc sz E (w.alloc (.cells cs E)) B (.slice (some ⟨w.heap.size, 0, none⟩) n n) xs := by
  subst hn
  have hl : (xs.flatMap enc).length = xs.length * sz := flatMap_len henc xs
  have hs : cs.size = xs.length * sz := by rw [← hl, ← h]; simp
  exact ⟨hl, .inr ⟨w.heap.size, xs.length, cs, rfl, hB, heap_alloc_new w _, Nat.le_refl _, by unfold maxLen; omega, hs, by rw [h, List.take_of_length_le (by omega)]⟩⟩
theorem OwnF.take {g n c : Nat} (h : OwnF enc sz E w B (.slice (some ⟨g, 0, none⟩) n c) xs) (henc : ∀ x, (enc x).length = sz) (m : Nat) (hm : m ≤ n) : OwnF enc sz E w B (.slice (some ⟨g, 0, none⟩) m c) (xs.take m) := by
  rcases h.2 with ⟨h1, h2⟩ | ⟨g', cap, cur, h1, hB, hh, h3, h4, h5, h6⟩
  · cases h1
  · injection h1 with e1 e2 e3
    injection e1 with e1
    injection e1 with e1 _
    subst e1
    subst e3
    have hn : n = xs.length := e2
    have hl : (xs.take m).length = m := by rw [List.length_take]; omega
    have hfl : ∀ (l : List α), (l.flatMap enc).length = l.length * sz := fun l => flatMap_len henc l
    unfold OwnF
    rw [hl]
    refine ⟨by rw [hfl, hl], .inr ⟨g, c, cur, rfl, hB, hh, by omega, h4, h5, ?_⟩⟩
    have e : xs.flatMap enc = (xs.take m).flatMap enc ++ (xs.drop m).flatMap enc := by rw [← List.flatMap_append, List.take_append_drop]
    have hle : m * sz ≤ xs.length * sz := Nat.mul_le_mul_right _ (by omega)
    have h7 : cur.toList.take (m * sz) = (cur.toList.take (xs.length * sz)).take (m * sz) := by rw [List.take_take, Nat.min_eq_left hle]
    rw [h7, h6, e, List.take_append_of_le_length (by rw [hfl, hl]; exact Nat.le_refl _), List.take_of_length_le (by rw [hfl, hl]; exact Nat.le_refl _)]
theorem OwnF.form2 (h : OwnF enc sz E w B v xs) : ∃ a c, v = .slice a xs.length c ∧ xs.length ≤ c := by
  rcases h.2 with ⟨h1, h2⟩ | ⟨g, cap, cur, h1, _, _, h3, _⟩
  · exact ⟨none, 0, by rw [h1, h2], by omega⟩
  · exact ⟨_, cap, h1, h3⟩
theorem OwnF.drawn {g : Nat} (h : OwnF enc sz E w B v xs) (hg : w.grownBy w' (some g)) (hB : g < B) : OwnF enc sz E w' B v xs := h.keepG hg hB
end
theorem Ev.one7 (x : Ev) : ∀ u ∈ x.enc, u.oneCell' = true := fun u hu => by
  simp only [Ev.enc, List.mem_cons, List.not_mem_nil, or_false] at hu
  rcases hu with rfl | rfl | rfl | rfl | rfl | rfl | rfl <;> rfl

set_option maxRecDepth 100000 in
set_option maxHeartbeats 6400000 in
theorem l07Events_any (a : Option Addr) (len cap g : Nat) (w : World) (C0 : Cur w a len cap g) : Calls Tryz.prog 119 #[.pointer (some ⟨g, 0, none⟩), .int .i64 2] w fun e w' =>
    (∃ (v : Value) (es : List Ev), e = .returned v ∧ OwnF Ev.enc 7 75 w' w.heap.size v es ∧ es.length ≤ 7) ∧ Drew w a len cap g w' := by
  have hg := C0.lt
  go_enter Tryz.func119, Tryz.ntmps119
  go_wp2_with fail
  refine (below_any _ _ _ _ 3 _ C0).mono ?_
  rintro e w1 ⟨⟨x, rfl, hx0, hx1⟩, D1⟩
  have D0 := D1
  have hx2 := hx1 (by omega)
  clear D1 hx1
  go_wp2_with fail
  refine (below_any _ _ _ _ 20 _ D0.cur).mono ?_
  rintro e w2 ⟨⟨y, rfl, hy0, hy1⟩, D1⟩
  replace D0 := D0.trans D1
  have hy2 := hy1 (by omega)
  clear D1 hy1
  go_wp2_with fail
  refine (below_any _ _ _ _ 20000 _ D0.cur).mono ?_
  rintro e w3 ⟨⟨z, rfl, hz0, hz1⟩, D1⟩
  replace D0 := D0.trans D1
  have hz2 := hz1 (by omega)
  clear D1 hz1
  have O0 : OwnF Ev.enc 7 75 (w3.alloc (.cells #[.int .i64 1, .int .i64 0, .int .i64 0, .int .i64 0, .int .i64 100000, .int .i64 0, .bool false, .int .i64 2, .int .i64 0, .int .i64 1, .int .i64 0, .int .i64 20000, .int .i64 10000, .bool false, .int .i64 2, .int .i64 0, .int .i64 2, .int .i64 0, .int .i64 10000, .int .i64 20000, .bool false, .int .i64 2, .int .i64 0, .int .i64 3, .int .i64 0, .int .i64 15000, .int .i64 15000, .bool false, .int .i64 4, .int .i64 0, .int .i64 (1 + x), .int .i64 0, .int .i64 y, .int .i64 z, .bool false] 75)) w.heap.size (.slice (some ⟨w3.heap.size, 0, none⟩) 5 5) [⟨1, 0, 0, 0, 100000, 0, false⟩, ⟨2, 0, 1, 0, 20000, 10000, false⟩, ⟨2, 0, 2, 0, 10000, 20000, false⟩, ⟨2, 0, 3, 0, 15000, 15000, false⟩, ⟨4, 0, 1 + x, 0, y, z, false⟩] := OwnF.lit w3 _ D0.size _ _ Ev.enc_len rfl 5 rfl (by decide)
  have E0 := D0.alloc (.cells #[.int .i64 1, .int .i64 0, .int .i64 0, .int .i64 0, .int .i64 100000, .int .i64 0, .bool false, .int .i64 2, .int .i64 0, .int .i64 1, .int .i64 0, .int .i64 20000, .int .i64 10000, .bool false, .int .i64 2, .int .i64 0, .int .i64 2, .int .i64 0, .int .i64 10000, .int .i64 20000, .bool false, .int .i64 2, .int .i64 0, .int .i64 3, .int .i64 0, .int .i64 15000, .int .i64 15000, .bool false, .int .i64 4, .int .i64 0, .int .i64 (1 + x), .int .i64 0, .int .i64 y, .int .i64 z, .bool false] 75)
  go_upto_region 2 with fail
  generalize w3.alloc (.cells #[.int .i64 1, .int .i64 0, .int .i64 0, .int .i64 0, .int .i64 100000, .int .i64 0, .bool false, .int .i64 2, .int .i64 0, .int .i64 1, .int .i64 0, .int .i64 20000, .int .i64 10000, .bool false, .int .i64 2, .int .i64 0, .int .i64 2, .int .i64 0, .int .i64 10000, .int .i64 20000, .bool false, .int .i64 2, .int .i64 0, .int .i64 3, .int .i64 0, .int .i64 15000, .int .i64 15000, .bool false, .int .i64 4, .int .i64 0, .int .i64 (1 + x), .int .i64 0, .int .i64 y, .int .i64 z, .bool false] 75) = X0 at O0 E0 ⊢
  obtain ⟨es0, he0⟩ : ∃ es : List Ev, es = [⟨1, 0, 0, 0, 100000, 0, false⟩, ⟨2, 0, 1, 0, 20000, 10000, false⟩, ⟨2, 0, 2, 0, 10000, 20000, false⟩, ⟨2, 0, 3, 0, 15000, 15000, false⟩, ⟨4, 0, 1 + x, 0, y, z, false⟩] := ⟨_, rfl⟩
  rw [← he0] at O0
  have hl0 : es0.length = 5 := by rw [he0]; rfl
  clear he0 D0 hx0 hx2 hy0 hy2 hz0 hz2
  go_wp2_with fail
  refine (below_any _ _ _ _ 4 _ E0.cur).mono ?_
  rintro e w4 ⟨⟨q, rfl, hq0, hq1⟩, D4⟩
  have E4 := E0.trans D4
  have O4 := O0.keepG D4.grown hg
  clear E0 O0 D4 hq1
  go_upto_if 23 with fail
  go_cut [5] (fun v wq => ∃ es : List Ev, es.length ≤ 5 ∧ OwnF Ev.enc 7 75 wq w.heap.size v es ∧ Drew w a len cap g wq)
  case first =>
    by_cases hq : q = 0
    · have e1 : (q == 0) = true := by simp [hq]
      clear hq hq0
      go_wp2_with fail
      refine (below_any _ _ _ _ 5 _ E4.cur).mono ?_
      rintro e w5 ⟨⟨m, rfl, hm0, hm1⟩, D5⟩
      have hm2 := hm1 (by omega)
      have E5 := E4.trans D5
      have O5 := O4.keepG D5.grown hg
      clear E4 O4 D5 hm1
      rcases (show m = 0 ∨ m = 1 ∨ m = 2 ∨ m = 3 ∨ m = 4 by omega) with rfl | rfl | rfl | rfl | rfl
      · go_wp2_with fail
        go_meet
        case rel => exact ⟨es0.take 0, by rw [List.length_take]; omega, O5.take Ev.enc_len 0 (by omega), E5⟩
      · go_wp2_with fail
        go_meet
        case rel => exact ⟨es0.take 1, by rw [List.length_take]; omega, O5.take Ev.enc_len 1 (by omega), E5⟩
      · go_wp2_with fail
        go_meet
        case rel => exact ⟨es0.take 2, by rw [List.length_take]; omega, O5.take Ev.enc_len 2 (by omega), E5⟩
      · go_wp2_with fail
        go_meet
        case rel => exact ⟨es0.take 3, by rw [List.length_take]; omega, O5.take Ev.enc_len 3 (by omega), E5⟩
      · go_wp2_with fail
        go_meet
        case rel => exact ⟨es0.take 4, by rw [List.length_take]; omega, O5.take Ev.enc_len 4 (by omega), E5⟩
    · have e1 : (q == 0) = false := by simp [hq]
      clear hq hq0
      go_wp2_with fail
      go_meet
      case rel => exact ⟨es0, by omega, O4, E4⟩
  case rest =>
    obtain ⟨es1, hl1, O6, E6⟩ := hcut
    clear O4 E4
    go_wp2_with fail
    refine (below_any _ _ _ _ 3 _ E6.cur).mono ?_
    rintro e w5 ⟨⟨n, rfl, hn0, hn1⟩, D5⟩
    have hn2 := hn1 (by omega)
    have E7 := E6.trans D5
    have O7 := O6.keepG D5.grown hg
    clear E6 O6 D5 hn1
    go_wp2
    go_loopw [5, 6, 7] (fun v i _ wr => ∃ (k : Nat) (es : List Ev), i = .int .i64 k ∧ es.length + k ≤ 7 ∧ OwnF Ev.enc 7 75 wr w.heap.size v es ∧ Drew w a len cap g wr) (fun _ i _ _ => (intOf i).toNat)
    case atStart => exact ⟨n.toNat, es1, by rw [Int.toNat_of_nonneg hn0], by omega, O7, E7⟩
    case round =>
      obtain ⟨kk, es, rfl, hk, own, D⟩ := hrel
      clear O7 E7
      by_cases hk0 : 0 < kk
      · obtain ⟨va, vc, rfl, hvc⟩ := own.form2
        obtain ⟨ne, hne⟩ : ∃ n, n = es.length := ⟨_, rfl⟩
        rw [← hne] at own hk hvc ⊢
        have HNE := Lib.hid hne
        clear hne
        go_wp2_with fail
        refine (l04Draw_any _ _ _ _ _ D.cur).mono ?_
        rintro e w6 ⟨⟨k, key, ch, too, amt, fee, yes, rfl, hk1, hkey, hch, htoo, hamt, hfee⟩, D6⟩
        have E6 := D.trans D6
        have O6 := own.keepG D6.grown hg
        have hs6 := E6.size
        have hc6 := E6.cur.lt
        clear D own D6
        have B6 : Bx (w6.alloc (.cells #[.int .i64 k, .int .i64 key, .int .i64 ch, .int .i64 too, .int .i64 amt, .int .i64 fee, .bool yes] 75)) w6.heap.size [.int .i64 k, .int .i64 key, .int .i64 ch, .int .i64 too, .int .i64 amt, .int .i64 fee, .bool yes] := Bx.new _ _ _ [.int .i64 k, .int .i64 key, .int .i64 ch, .int .i64 too, .int .i64 amt, .int .i64 fee, .bool yes] rfl (by exact Nat.zero_lt_succ _) _ rfl
        have E8 := E6.alloc (.cells #[.int .i64 k, .int .i64 key, .int .i64 ch, .int .i64 too, .int .i64 amt, .int .i64 fee, .bool yes] 75)
        have hne6 : Hid ((Value.slice va ne vc).ownBlock ≠ some w6.heap.size) := fun e => by have := (World.ownsRow.lt O6 _ e).2; omega
        have O8 := O6.alloc (.cells #[.int .i64 k, .int .i64 key, .int .i64 ch, .int .i64 too, .int .i64 amt, .int .i64 fee, .bool yes] 75)
        go_upto_region 8 with fail
        generalize w6.alloc (.cells #[.int .i64 k, .int .i64 key, .int .i64 ch, .int .i64 too, .int .i64 amt, .int .i64 fee, .bool yes] 75) = X8 at B6 E8 O8 ⊢
        clear E6 O6
        go_wp2_with fail
        refine (below_any _ _ _ _ 3 _ E8.cur).mono ?_
        rintro e w9 ⟨⟨q, rfl, hq0, hq1⟩, D9⟩
        have E9 := E8.trans D9
        have O9 := O8.keepG D9.grown hg
        have B9 := B6.drawn B6.ne D9.grown (by omega)
        clear E8 O8 B6 D9 hq1
        go_upto_if 40 with fail
        go_cut [] (fun wq => ∃ L, EL L ∧ Bx wq w6.heap.size L ∧ OwnF Ev.enc 7 75 wq w.heap.size (.slice va ne vc) es ∧ Drew w a len cap g wq)
        case first =>
          by_cases hq : q = 0
          · have e1 : (q == 0) = true := by simp [hq]
            clear hq hq0
            go_wp2_with fail
            refine (below_any _ _ _ _ 6 _ E9.cur).mono ?_
            rintro e wa0 ⟨⟨p1, rfl, hp10, hp11⟩, D1⟩
            replace O9 := O9.keepG D1.grown hg
            replace B9 := B9.drawn B9.ne D1.grown (by omega)
            replace E9 := E9.trans D1
            have hp12 := hp11 (by omega)
            clear D1 hp11
            go_wp2_with fail
            refine (below_any _ _ _ _ 3 _ E9.cur).mono ?_
            rintro e wa1 ⟨⟨p2, rfl, hp20, hp21⟩, D1⟩
            replace O9 := O9.keepG D1.grown hg
            replace B9 := B9.drawn B9.ne D1.grown (by omega)
            replace E9 := E9.trans D1
            have hp22 := hp21 (by omega)
            clear D1 hp21
            go_wp2_with fail
            refine (below_any _ _ _ _ 5000 _ E9.cur).mono ?_
            rintro e wa2 ⟨⟨p3, rfl, hp30, hp31⟩, D1⟩
            replace O9 := O9.keepG D1.grown hg
            replace B9 := B9.drawn B9.ne D1.grown (by omega)
            replace E9 := E9.trans D1
            have hp32 := hp31 (by omega)
            clear D1 hp31
            go_wp2_with fail
            refine (below_any _ _ _ _ 2 _ E9.cur).mono ?_
            rintro e wa3 ⟨⟨p4, rfl, hp40, hp41⟩, D1⟩
            replace O9 := O9.keepG D1.grown hg
            replace B9 := B9.drawn B9.ne D1.grown (by omega)
            replace E9 := E9.trans D1
            have hp42 := hp41 (by omega)
            clear D1 hp41
            go_upto_region 10 with ((show Go.wpList _ _ _ ((Go.Oper.mk _ (Go.Op.store 75 _ _) _ _ _ _) :: _) _ _); refine wpList_store_row infEv7 rfl _ _ rfl w6.heap.size 0 [.int .i64 5, .int .i64 (1 + p1), .int .i64 (1 + p2), .int .i64 0, .int .i64 (1 + p3), .int .i64 0, .bool (p4 == 0)] rfl rfl (B9.there 0 7 (by exact Nat.le_of_ble_eq_true rfl)) rfl (fun v hv => by simp only [List.mem_cons, List.not_mem_nil, or_false] at hv; rcases hv with rfl | rfl | rfl | rfl | rfl | rfl | rfl <;> rfl) ?_)
            have BA := B9.set1 (vs := [.int .i64 5, .int .i64 (1 + p1), .int .i64 (1 + p2), .int .i64 0, .int .i64 (1 + p3), .int .i64 0, .bool (p4 == 0)]) rfl
            have EA := E9.setCells (b := w6.heap.size) hs6 [.int .i64 5, .int .i64 (1 + p1), .int .i64 (1 + p2), .int .i64 0, .int .i64 (1 + p3), .int .i64 0, .bool (p4 == 0)] 0 wa3
            have OA : OwnF Ev.enc 7 75 (wa3.setCells w6.heap.size 0 [.int .i64 5, .int .i64 (1 + p1), .int .i64 (1 + p2), .int .i64 0, .int .i64 (1 + p3), .int .i64 0, .bool (p4 == 0)]) w.heap.size (.slice va ne vc) es := World.ownsRow.kept O9 (grown_setsS w6.heap.size [.int .i64 5, .int .i64 (1 + p1), .int .i64 (1 + p2), .int .i64 0, .int .i64 (1 + p3), .int .i64 0, .bool (p4 == 0)] 0 wa3) (.inr (hne6.out))
            generalize wa3.setCells w6.heap.size 0 [.int .i64 5, .int .i64 (1 + p1), .int .i64 (1 + p2), .int .i64 0, .int .i64 (1 + p3), .int .i64 0, .bool (p4 == 0)] = XA at BA EA OA ⊢
            have c2 := BA.cell 2 _ rfl
            have c3 := BA.cell 3 _ rfl
            have f3 := BA.fz 3 (by exact Nat.le_of_ble_eq_true rfl)
            clear B9 E9 O9
            go_wp2_with fail
            go_meet
            case rel => exact ⟨[.int .i64 5, .int .i64 (1 + p1), .int .i64 (1 + p2), .int .i64 (1 + (1 + p2) % 3), .int .i64 (1 + p3), .int .i64 0, .bool (p4 == 0)], ⟨5, 1 + p1, 1 + p2, 1 + (1 + p2) % 3, 1 + p3, 0, p4 == 0, rfl, by unfold I64; omega, by unfold I64; omega, by unfold I64; omega, by unfold I64; omega, by unfold I64; omega, by unfold I64; omega⟩, BA.set 3 [.int .i64 (1 + (1 + p2) % 3)] (by exact Nat.le_of_ble_eq_true rfl), World.ownsRow.kept OA (grown_setCell XA w6.heap.size 3 (.int .i64 (1 + (1 + p2) % 3))) (.inr hne6.out), EA.setCell hs6 _⟩
          · have e1 : (q == 0) = false := by simp [hq]
            clear hq hq0
            go_wp2_with fail
            go_meet
            case rel => exact ⟨[.int .i64 k, .int .i64 key, .int .i64 ch, .int .i64 too, .int .i64 amt, .int .i64 fee, .bool yes], ⟨k, key, ch, too, amt, fee, yes, rfl, hk1, hkey, hch, htoo, hamt, hfee⟩, B9, O9, E9⟩
        case rest =>
          clear B9 O9 E9 hk1 hkey hch htoo hamt hfee
          obtain ⟨L, ⟨k, key, ch, too, amt, fee, yes, rfl, -⟩, BB, OB, EB⟩ := hcut
          have c0 := BB.cell 0 _ rfl
          have c1 := BB.cell 1 _ rfl
          have c2 := BB.cell 2 _ rfl
          have c3 := BB.cell 3 _ rfl
          have c4 := BB.cell 4 _ rfl
          have c5 := BB.cell 5 _ rfl
          have c6 := BB.cell 6 _ rfl
          have hsB := EB.size
          go_wp2_with (at_builtin; refine wpList_append_f infoEvent Tryz.underlying58 rfl (by decide) (by decide) Ev.enc_len Ev.one7 rfl _ _ rfl w.heap.size _ es rfl (OB.alloc _) _ ⟨k, key, ch, too, amt, fee, yes⟩ rfl (new_cells _ _ _ rfl) (by have := HNE.out; omega) (Nat.le_trans hsB (size_alloc_le _ _)) ?_)
          intro v7 w7 own7 hb7 hg7
          have E11 := Drew.own (EB.alloc (.cells #[.int .i64 k, .int .i64 key, .int .i64 ch, .int .i64 too, .int .i64 amt, .int .i64 fee, .bool yes] 75)) hb7 (Nat.le_refl _)
          clear BB OB EB hg7
          go_wp2
          go_roundw
          case rel => exact ⟨kk - 1, _, by go_num, by rw [List.length_append, List.length_singleton]; have := HNE.out; omega, own7, E11⟩
          case measure => simp only [intOf]; omega
      · have e : kk = 0 := by omega
        subst e
        obtain ⟨va, vc, rfl, hvc⟩ := own.form2
        go_wp2
        go_ret
        exact ⟨⟨_, es, rfl, own, by omega⟩, D⟩

theorem own_apart {w : World} {B B' s s' n n' : Nat} {E E' : TypeId} {v v' : Value} {cs cs' : List Value} (h : w.ownsRow B E s v n cs) (h' : w.ownsRow B' E' s' v' n' cs') (hE : E ≠ E') : v'.ownBlock = none ∨ v'.ownBlock ≠ v.ownBlock := by
  cases hv : v'.ownBlock with
  | none => exact .inl rfl
  | some k =>
    refine .inr fun e => ?_
    obtain ⟨c1, h1⟩ := own_ty h' k (by rw [hv]; simp)
    obtain ⟨c2, h2⟩ := own_ty h k (by rw [← e]; simp)
    rw [h1] at h2
    simp at h2
    exact hE h2.2.symm
theorem ON.lit1 (w : World) (B : Nat) (hB : B ≤ w.heap.size) (cs : Array Value) (x : St) (h : cs.toList = StepK.enc x (.slice none 0 0)) (hk : x.keep = []) : ON StepK (w.alloc (.cells cs 79)) B (.slice (some ⟨w.heap.size, 0, none⟩) 1 1) [x] [.slice none 0 0] := by
  have hs : cs.size = 14 := by
    have : cs.toList.length = 14 := by rw [h]; rfl
    simpa using this
  refine ⟨rfl, ⟨rfl, .inr ⟨w.heap.size, 1, cs, rfl, hB, heap_alloc_new w _, Nat.le_refl _, by unfold maxLen; omega, hs, ?_⟩⟩, fun _ _ => trivial, fun i y u h1 h2 => ?_, fun y hy z hz => ?_, ?_⟩
  · show cs.toList.take 14 = rowOf StepK [x] [.slice none 0 0]
    rw [List.take_of_length_le (by rw [h]; exact Nat.le_refl _), h]
    simp [rowOf]
  · have hi : i = 0 := by
      have := (List.getElem?_eq_some_iff.1 h1).1
      simp at this
      exact this
    subst hi
    simp at h1 h2
    subst h1; subst h2
    show OwnF inE 1 _ _ _ _ x.keep
    rw [hk]
    exact World.ownsRow_nil _ _ _ _
  · rw [List.mem_singleton] at hy
    subst hy
    have hz : z ∈ y.keep := hz
    rw [hk] at hz
    cases hz
  · show ([w.heap.size] : List Nat).Nodup
    exact List.nodup_cons.2 ⟨List.not_mem_nil, List.nodup_nil⟩
theorem Bx.onlyB {w w' : World} {b : Nat} {L : List Value} (h : Bx w b L) (hb : Below w.heap.size w w') : Bx w' b L := h.keep hb

set_option maxRecDepth 100000 in
set_option maxHeartbeats 12800000 in
theorem l12Steps_any (a : Option Addr) (len cap g : Nat) (w : World) (C0 : Cur w a len cap g) : Calls Tryz.prog 80 #[.pointer (some ⟨g, 0, none⟩), .int .i64 10] w fun e w' =>
    (∃ (v : Value) (xs : List St) (us : List Value), e = .returned v ∧ ON StepK w' w.heap.size v xs us ∧ xs.length ≤ 18 ∧ ∀ s ∈ xs, s.keep.length ≤ 6) ∧ Drew w a len cap g w' := by
  have hg := C0.lt
  have ON0 : ON StepK (w.alloc (.cells #[.int .i64 4, .int .i64 0, .int .i64 0, .int .i64 0, .int .i64 0, .int .i64 0, .int .i64 0, .bool false, .slice none 0 0, .int .i64 0, .int .i64 0, .int .i64 0, .int .i64 0, .int .i64 0] 79)) w.heap.size (.slice (some ⟨w.heap.size, 0, none⟩) 1 1) [({ St.zero with kind := 4 } : St)] [.slice none 0 0] := ON.lit1 w _ (Nat.le_refl _) _ _ rfl rfl
  have D0 := (Drew.refl C0).alloc (.cells #[.int .i64 4, .int .i64 0, .int .i64 0, .int .i64 0, .int .i64 0, .int .i64 0, .int .i64 0, .bool false, .slice none 0 0, .int .i64 0, .int .i64 0, .int .i64 0, .int .i64 0, .int .i64 0] 79)
  go_enter Tryz.func80, Tryz.ntmps80
  go_upto_region 2 with fail
  generalize w.alloc (.cells #[.int .i64 4, .int .i64 0, .int .i64 0, .int .i64 0, .int .i64 0, .int .i64 0, .int .i64 0, .bool false, .slice none 0 0, .int .i64 0, .int .i64 0, .int .i64 0, .int .i64 0, .int .i64 0] 79) = X0 at ON0 D0 ⊢
  go_wp2_with fail
  refine (l07Events_any _ _ _ _ _ D0.cur).mono ?_
  rintro e w1 ⟨⟨ev, es, rfl, Oe, hes⟩, D1⟩
  have D2 := D0.trans D1
  have ON2 := ON0.kept (Ex.of_grown D1.grown) (fun k hk e => by have := (ON0.lt k hk).1; simp at e; omega)
  have zX : w.heap.size ≤ X0.heap.size := D0.size
  have zX1 : X0.heap.size ≤ w1.heap.size := D1.size
  obtain ⟨ea, ec, rfl, hec⟩ := Oe.form2
  obtain ⟨ne, hne⟩ : ∃ n, n = es.length := ⟨_, rfl⟩
  rw [← hne] at Oe hec hes ⊢
  have HNE := Lib.hid hne
  clear ON0 D0 D1 hne
  go_wp2
  go_loopw [5, 7, 16] (fun v _ i wr => ∃ (k : Nat) (xs : List St) (us : List Value), k ≤ ne ∧ i = .int .i64 k ∧ xs.length = 1 + k ∧ ON StepK wr w.heap.size v xs us ∧ Hid (∀ s ∈ xs, s.keep.length ≤ 6) ∧ OwnF Ev.enc 7 75 wr X0.heap.size (.slice ea ne ec) es ∧ Drew w a len cap g wr) (fun _ _ i _ => ne - (intOf i).toNat)
  case atStart => exact ⟨0, [({ St.zero with kind := 4 } : St)], [.slice none 0 0], Nat.zero_le _, rfl, rfl, ON2, fun s hs => by rw [List.mem_singleton] at hs; subst hs; exact Nat.zero_le _, Oe, D2⟩
  case round =>
    obtain ⟨k, xs, us, hk, rfl, hxl0, hon, hks, O, D⟩ := hrel
    have hxl := Lib.hid hxl0
    clear hxl0
    clear ON2 D2 Oe
    by_cases hlt : k < ne
    · obtain ⟨ea', ec', he, hof⟩ := OwnF.of (ok := fun _ => True) O (fun _ _ => trivial)
      injection he with he1 he2 he3
      subst he1
      subst he3
      clear he2
      have F : FS Ev.enc 7 (fun _ => True) wr wr.heap.size ea ne es := by rw [HNE.out]; exact OF.fs Ev.enc_len hof
      obtain ⟨b, off, x, rfl, hb, hc, -, -, -⟩ := FS.at_ F hlt
      have c0 : wr.cell? ⟨b, off + k * 7, none⟩ = some (.int .i64 x.kind) := hc 0 _ rfl
      have c1 : wr.cell? ⟨b, off + k * 7 + 1, none⟩ = some (.int .i64 x.key) := hc 1 _ rfl
      have c2 : wr.cell? ⟨b, off + k * 7 + 2, none⟩ = some (.int .i64 x.ch) := hc 2 _ rfl
      have c3 : wr.cell? ⟨b, off + k * 7 + 3, none⟩ = some (.int .i64 x.to) := hc 3 _ rfl
      have c4 : wr.cell? ⟨b, off + k * 7 + 4, none⟩ = some (.int .i64 x.amt) := hc 4 _ rfl
      have c5 : wr.cell? ⟨b, off + k * 7 + 5, none⟩ = some (.int .i64 x.fee) := hc 5 _ rfl
      have c6 : wr.cell? ⟨b, off + k * 7 + 6, none⟩ = some (.bool x.yes) := hc 6 _ rfl
      obtain ⟨va, vc, rfl, hvc, hvm⟩ := hon.form
      have zD := D.size
      clear F hof hc
      have bA := below_alloc (Below.refl wr.heap.size wr) (.cells #[.int .i64 x.kind, .int .i64 x.key, .int .i64 x.ch, .int .i64 x.to, .int .i64 x.amt, .int .i64 x.fee, .bool x.yes] 75)
      have B5 : Bx (wr.alloc (.cells #[.int .i64 x.kind, .int .i64 x.key, .int .i64 x.ch, .int .i64 x.to, .int .i64 x.amt, .int .i64 x.fee, .bool x.yes] 75)) wr.heap.size [.int .i64 x.kind, .int .i64 x.key, .int .i64 x.ch, .int .i64 x.to, .int .i64 x.amt, .int .i64 x.fee, .bool x.yes] := Bx.new _ _ _ [.int .i64 x.kind, .int .i64 x.key, .int .i64 x.ch, .int .i64 x.to, .int .i64 x.amt, .int .i64 x.fee, .bool x.yes] rfl (by exact Nat.zero_lt_succ _) _ rfl
      have hon5 := hon.keep bA
      have O5 := OwnF.keep O bA
      have D5 := D.keep bA
      have zX5 : w.heap.size ≤ (wr.alloc (.cells #[.int .i64 x.kind, .int .i64 x.key, .int .i64 x.ch, .int .i64 x.to, .int .i64 x.amt, .int .i64 x.fee, .bool x.yes] 75)).heap.size := Nat.le_trans zD bA.size
      go_upto_region 5 with fail
      generalize wr.alloc (.cells #[.int .i64 x.kind, .int .i64 x.key, .int .i64 x.ch, .int .i64 x.to, .int .i64 x.amt, .int .i64 x.fee, .bool x.yes] 75) = X5 at B5 hon5 O5 D5 zX5 ⊢
      have d0 := B5.cell 0 _ rfl
      have d1 := B5.cell 1 _ rfl
      have d2 := B5.cell 2 _ rfl
      have d3 := B5.cell 3 _ rfl
      have d4 := B5.cell 4 _ rfl
      have d5 := B5.cell 5 _ rfl
      have d6 := B5.cell 6 _ rfl
      clear bA hon O D c0 c1 c2 c3 c4 c5 c6
      go_wp2_with (at_builtin; refine wpList_append_on (K := StepK) infoStep Tryz.underlying66 rfl (by decide) (by decide) StepK_one rfl _ _ rfl w.heap.size _ _ _ rfl (hon5.keep (by (repeat (first | (with_reducible exact Below.refl _ _) | (with_reducible assumption) | (with_reducible refine Below.setCell ?_ ?side _; case side => first | (with_reducible exact Nat.le_refl _) | (simp; done) | (simp only [World.size_alloc, World.size_setCell, World.size_drew, World.heap_drewN] at *; omega)) | (with_reducible refine below_alloc ?_ _) | (with_reducible refine Below.drew ?_) | (with_reducible refine below_drewN ?_) | (with_reducible refine below_via (by assumption) ?_))))) _ ({ St.zero with kind := 1, ev := x } : St) (.slice none 0 0) rfl rfl (new_cells _ _ _ rfl) (by have := hxl.out; omega) (Nat.le_trans zX5 (size_alloc_le _ _)) (by decide) (World.ownsRow_nil _ _ _ _) trivial (by intro z hz; cases hz) (by intro k hk; simp [Value.ownBlock] at hk) ?_)
      intro v4 w4 hon4 hb4 hg4
      have bB : Below X5.heap.size X5 (X5.alloc (.cells #[.int .i64 1, .int .i64 x.kind, .int .i64 x.key, .int .i64 x.ch, .int .i64 x.to, .int .i64 x.amt, .int .i64 x.fee, .bool x.yes, .slice none 0 0, .int .i64 0, .int .i64 0, .int .i64 0, .int .i64 0, .int .i64 0] 79)) := by (repeat (first | (with_reducible exact Below.refl _ _) | (with_reducible assumption) | (with_reducible refine Below.setCell ?_ ?side _; case side => first | (with_reducible exact Nat.le_refl _) | (simp; done) | (simp only [World.size_alloc, World.size_setCell, World.size_drew, World.heap_drewN] at *; omega)) | (with_reducible refine below_alloc ?_ _) | (with_reducible refine Below.drew ?_) | (with_reducible refine below_drewN ?_) | (with_reducible refine below_via (by assumption) ?_)))
      have O4 : OwnF Ev.enc 7 75 w4 X0.heap.size (.slice (some ⟨b, off, none⟩) ne ec) es := World.ownsRow.kept (OwnF.keep O5 bB) hg4 (own_apart (hon5.keep bB).row (OwnF.keep O5 bB) (by decide : (79 : TypeId) ≠ 75))
      have D4 := Drew.own (D5.keep bB) hb4 (Nat.le_refl _)
      have HK4 : Hid (∀ s ∈ xs ++ [({ St.zero with kind := 1, ev := x } : St)], s.keep.length ≤ 6) := fun s hs => by
        rcases List.mem_append.1 hs with hs | hs
        · exact hks.out s hs
        · rw [List.mem_singleton] at hs
          subst hs
          exact Nat.zero_le _
      clear bB O5 D5 hon5 hg4 hb4 B5 d0 d1 d2 d3 d4 d5 d6
      obtain ⟨wa, wc4, rfl, -, -⟩ := hon4.form
      go_wp2
      go_roundw
      case rel => exact ⟨k + 1, xs ++ [({ St.zero with kind := 1, ev := x } : St)], us ++ [.slice none 0 0], by omega, by go_num, by rw [List.length_append, List.length_singleton]; have := hxl.out; omega, hon4, HK4, O4, D4⟩
      case measure => simp only [intOf]; omega
    · have hx8 : xs.length ≤ 8 := by have := hxl.out; omega
      clear O
      go_wp2_with fail
      refine (below_any _ _ _ _ 11 _ D.cur).mono ?_
      rintro e w3 ⟨⟨n, rfl, hn0, hn1⟩, D3⟩
      have hn2 := hn1 (by omega)
      have ON3 := hon.kept (Ex.of_grown D3.grown) (fun k hk e => by have := (hon.lt k hk).1; simp at e; omega)
      have E3 := D.trans D3
      clear hon D D3 hn1
      go_wp2
      go_loopw [5, 8, 9, 10] (fun v i _ _ wq => ∃ (k : Nat) (xs : List St) (us : List Value), i = .int .i64 k ∧ xs.length + k ≤ 18 ∧ ON StepK wq w.heap.size v xs us ∧ Hid (∀ s ∈ xs, s.keep.length ≤ 6) ∧ Drew w a len cap g wq) (fun _ i _ _ _ => (intOf i).toNat)
      case atStart => exact ⟨n.toNat, xs, us, by rw [Int.toNat_of_nonneg hn0], by omega, ON3, hks, E3⟩
      case round =>
        clear ON3 E3 hx8 hxl
        obtain ⟨kk, ys, vs, rfl, hk2, hon, hks2, D⟩ := hrel
        obtain ⟨wo, rfl⟩ : ∃ wo : World, wo = wr := ⟨_, rfl⟩
        clear hks
        by_cases hk0 : 0 < kk
        · obtain ⟨va, vc, rfl, hvc, hvm⟩ := hon.form
          have hbl : Hid (∀ k ∈ blks (.slice va ys.length vc :: vs), k < wo.heap.size) := fun k hk => (hon.lt k hk).2
          have hyl := Lib.hid hk2
          have hkk : kk ≤ 18 := by omega
          clear hk2
          have zw := D.size
          have hgo := D.cur.lt
          go_wp2_with fail
          refine (l12Step_any _ _ _ _ _ D.cur).mono ?_
          unfold drawnStep
          rintro e w6 ⟨⟨s, ka, kc, rfl, own, hk6, hks6⟩, D6⟩
          have HKS := Lib.hid hks6
          have E6 := D.trans D6
          have ON6 := hon.kept (Ex.of_grown D6.grown) (fun k hk e => by have := (hon.lt k hk).1; simp at e; omega)
          have z6 := E6.size
          have zo := D6.size
          have hc6 := E6.cur.lt
          clear D D6 hon hks6
          have Q0 : Bx (w6.alloc (.cells #[.int .i64 0, .int .i64 0, .int .i64 0, .int .i64 0, .int .i64 0, .int .i64 0, .int .i64 0, .bool false, .slice none 0 0, .int .i64 0, .int .i64 0, .int .i64 0, .int .i64 0, .int .i64 0] 79)) w6.heap.size [.int .i64 0, .int .i64 0, .int .i64 0, .int .i64 0, .int .i64 0, .int .i64 0, .int .i64 0, .bool false, .slice none 0 0, .int .i64 0, .int .i64 0, .int .i64 0, .int .i64 0, .int .i64 0] := Bx.new _ _ _ [.int .i64 0, .int .i64 0, .int .i64 0, .int .i64 0, .int .i64 0, .int .i64 0, .int .i64 0, .bool false, .slice none 0 0, .int .i64 0, .int .i64 0, .int .i64 0, .int .i64 0, .int .i64 0] rfl (by exact Nat.zero_lt_succ _) _ rfl
          have NB6 : ∀ k ∈ blks (.slice va ys.length vc :: vs), k ∉ (some w6.heap.size).toList := fun k hk e => by have := hbl.out k hk; simp at e; omega
          have HNB := Lib.hid NB6
          clear NB6
          go_upto_region 11 with ((show Go.wpList _ _ _ ((Go.Oper.mk _ (Go.Op.store 79 _ _) _ _ _ _) :: _) _ _); refine wpList_store_row infStp rfl _ _ rfl (w6.heap.size) 0 [.int .i64 s.kind, .int .i64 s.ev.kind, .int .i64 s.ev.key, .int .i64 s.ev.ch, .int .i64 s.ev.to, .int .i64 s.ev.amt, .int .i64 s.ev.fee, .bool s.ev.yes, .slice ka s.keep.length kc, .int .i64 s.lo, .int .i64 s.hi, .int .i64 s.step, .int .i64 s.mn, .int .i64 s.mx] rfl rfl (Q0.there 0 14 (by exact Nat.le_of_ble_eq_true rfl)) rfl (fun v hv => by simp only [List.mem_cons, List.not_mem_nil, or_false] at hv; rcases hv with rfl | rfl | rfl | rfl | rfl | rfl | rfl | rfl | rfl | rfl | rfl | rfl | rfl | rfl <;> rfl) ?_)
          have HX := Q0.set1 (vs := [.int .i64 s.kind, .int .i64 s.ev.kind, .int .i64 s.ev.key, .int .i64 s.ev.ch, .int .i64 s.ev.to, .int .i64 s.ev.amt, .int .i64 s.ev.fee, .bool s.ev.yes, .slice ka s.keep.length kc, .int .i64 s.lo, .int .i64 s.hi, .int .i64 s.step, .int .i64 s.mn, .int .i64 s.mx]) rfl
          have EX := (E6.alloc (.cells #[.int .i64 0, .int .i64 0, .int .i64 0, .int .i64 0, .int .i64 0, .int .i64 0, .int .i64 0, .bool false, .slice none 0 0, .int .i64 0, .int .i64 0, .int .i64 0, .int .i64 0, .int .i64 0] 79)).setCells z6 [.int .i64 s.kind, .int .i64 s.ev.kind, .int .i64 s.ev.key, .int .i64 s.ev.ch, .int .i64 s.ev.to, .int .i64 s.ev.amt, .int .i64 s.ev.fee, .bool s.ev.yes, .slice ka s.keep.length kc, .int .i64 s.lo, .int .i64 s.hi, .int .i64 s.step, .int .i64 s.mn, .int .i64 s.mx] 0 _
          have OX := (own.alloc (.cells #[.int .i64 0, .int .i64 0, .int .i64 0, .int .i64 0, .int .i64 0, .int .i64 0, .int .i64 0, .bool false, .slice none 0 0, .int .i64 0, .int .i64 0, .int .i64 0, .int .i64 0, .int .i64 0] 79)).keepE (grown_setsS w6.heap.size [.int .i64 s.kind, .int .i64 s.ev.kind, .int .i64 s.ev.key, .int .i64 s.ev.ch, .int .i64 s.ev.to, .int .i64 s.ev.amt, .int .i64 s.ev.fee, .bool s.ev.yes, .slice ka s.keep.length kc, .int .i64 s.lo, .int .i64 s.hi, .int .i64 s.step, .int .i64 s.mn, .int .i64 s.mx] 0 _) (fun e => by have := (own.bnd _ e).2; omega)
          have NX := (ON6.keep (below_alloc (Below.refl _ _) (.cells #[.int .i64 0, .int .i64 0, .int .i64 0, .int .i64 0, .int .i64 0, .int .i64 0, .int .i64 0, .bool false, .slice none 0 0, .int .i64 0, .int .i64 0, .int .i64 0, .int .i64 0, .int .i64 0] 79))).kept (Ex.of_grown (grown_setsS w6.heap.size [.int .i64 s.kind, .int .i64 s.ev.kind, .int .i64 s.ev.key, .int .i64 s.ev.ch, .int .i64 s.ev.to, .int .i64 s.ev.amt, .int .i64 s.ev.fee, .bool s.ev.yes, .slice ka s.keep.length kc, .int .i64 s.lo, .int .i64 s.hi, .int .i64 s.step, .int .i64 s.mn, .int .i64 s.mx] 0 _)) HNB.out
          generalize (w6.alloc (.cells #[.int .i64 0, .int .i64 0, .int .i64 0, .int .i64 0, .int .i64 0, .int .i64 0, .int .i64 0, .bool false, .slice none 0 0, .int .i64 0, .int .i64 0, .int .i64 0, .int .i64 0, .int .i64 0] 79)).setCells w6.heap.size 0 [.int .i64 s.kind, .int .i64 s.ev.kind, .int .i64 s.ev.key, .int .i64 s.ev.ch, .int .i64 s.ev.to, .int .i64 s.ev.amt, .int .i64 s.ev.fee, .bool s.ev.yes, .slice ka s.keep.length kc, .int .i64 s.lo, .int .i64 s.hi, .int .i64 s.step, .int .i64 s.mn, .int .i64 s.mx] = X6 at HX EX OX NX ⊢
          clear Q0 E6 own ON6
          go_wp2_with fail
          refine (below_any _ _ _ _ 3 _ EX.cur).mono ?_
          rintro e w7 ⟨⟨q, rfl, hq0, hq1⟩, D7⟩
          have HX7 := HX.drawn HX.ne D7.grown (by omega)
          have E7 := EX.trans D7
          have O7 := OX.keepG D7.grown hgo
          have N7 := NX.kept (Ex.of_grown D7.grown) (fun k hk e => by have := (NX.lt k hk).1; simp at e; omega)
          clear HX EX OX NX D7 hq1
          go_upto_if 38 with fail
          go_cut [] (fun wq => ∃ (s : St) (ka : Option Addr) (kc : Nat), Bx wq w6.heap.size [.int .i64 s.kind, .int .i64 s.ev.kind, .int .i64 s.ev.key, .int .i64 s.ev.ch, .int .i64 s.ev.to, .int .i64 s.ev.amt, .int .i64 s.ev.fee, .bool s.ev.yes, .slice ka s.keep.length kc, .int .i64 s.lo, .int .i64 s.hi, .int .i64 s.step, .int .i64 s.mn, .int .i64 s.mx] ∧ OwnI wq wo.heap.size (.slice ka s.keep.length kc) s.keep ∧ s.keep.length ≤ 6 ∧ Hid (∀ n ∈ s.keep, I64 n) ∧ ON StepK wq w.heap.size (.slice va ys.length vc) ys vs ∧ Drew w a len cap g wq)
          case first =>
            by_cases hq : q = 0
            · have e1 : (q == 0) = true := by simp [hq]
              clear hq hq0 O7 HKS hk6
              go_wp2_with fail
              refine (below_any _ _ _ _ 5 _ E7.cur).mono ?_
              rintro e wa0 ⟨⟨p1, rfl, hp10, hp11⟩, D1⟩
              replace N7 := N7.kept (Ex.of_grown D1.grown) (fun k hk e => by have := (N7.lt k hk).1; simp at e; omega)
              replace HX7 := HX7.drawn HX7.ne D1.grown (by omega)
              replace E7 := E7.trans D1
              have hp12 := hp11 (by omega)
              clear D1 hp11
              go_wp2_with fail
              refine (below_any _ _ _ _ 3 _ E7.cur).mono ?_
              rintro e wa1 ⟨⟨p2, rfl, hp20, hp21⟩, D1⟩
              replace N7 := N7.kept (Ex.of_grown D1.grown) (fun k hk e => by have := (N7.lt k hk).1; simp at e; omega)
              replace HX7 := HX7.drawn HX7.ne D1.grown (by omega)
              replace E7 := E7.trans D1
              have hp22 := hp21 (by omega)
              clear D1 hp21
              go_wp2_with fail
              refine (below_any _ _ _ _ 3000 _ E7.cur).mono ?_
              rintro e wa2 ⟨⟨p3, rfl, hp30, hp31⟩, D1⟩
              replace N7 := N7.kept (Ex.of_grown D1.grown) (fun k hk e => by have := (N7.lt k hk).1; simp at e; omega)
              replace HX7 := HX7.drawn HX7.ne D1.grown (by omega)
              replace E7 := E7.trans D1
              have hp32 := hp31 (by omega)
              clear D1 hp31
              have BE : Bx (wa2.alloc (.cells #[.int .i64 5, .int .i64 (1 + p1), .int .i64 (1 + p2), .int .i64 0, .int .i64 (1 + p3), .int .i64 0, .bool false] 75)) wa2.heap.size [.int .i64 5, .int .i64 (1 + p1), .int .i64 (1 + p2), .int .i64 0, .int .i64 (1 + p3), .int .i64 0, .bool false] := Bx.new _ _ _ [.int .i64 5, .int .i64 (1 + p1), .int .i64 (1 + p2), .int .i64 0, .int .i64 (1 + p3), .int .i64 0, .bool false] rfl (by exact Nat.zero_lt_succ _) _ rfl
              have HE := HX7.alloc (.cells #[.int .i64 5, .int .i64 (1 + p1), .int .i64 (1 + p2), .int .i64 0, .int .i64 (1 + p3), .int .i64 0, .bool false] 75)
              have EE := E7.alloc (.cells #[.int .i64 5, .int .i64 (1 + p1), .int .i64 (1 + p2), .int .i64 0, .int .i64 (1 + p3), .int .i64 0, .bool false] 75)
              have NE := N7.keep (below_alloc (Below.refl _ _) (.cells #[.int .i64 5, .int .i64 (1 + p1), .int .i64 (1 + p2), .int .i64 0, .int .i64 (1 + p3), .int .i64 0, .bool false] 75))
              have hza := HX7.lt
              have hzE := E7.size
              have NB7 : Hid (∀ k ∈ blks (.slice va ys.length vc :: vs), k ∉ (some wa2.heap.size).toList) := fun k hk e => by have := (N7.lt k hk).2; simp at e; omega
              go_upto_region 13 with fail
              generalize wa2.alloc (.cells #[.int .i64 5, .int .i64 (1 + p1), .int .i64 (1 + p2), .int .i64 0, .int .i64 (1 + p3), .int .i64 0, .bool false] 75) = XE at BE HE EE NE ⊢
              clear HX7 E7 N7
              have c2 := BE.cell 2 _ rfl
              have c3 := BE.cell 3 _ rfl
              have f3 := BE.fz 3 (by exact Nat.le_of_ble_eq_true rfl)
              go_upto_region 14 with fail
              have BF : Bx (XE.setCell ⟨wa2.heap.size, 3, none⟩ (.int .i64 (1 + (1 + p2) % 3))) wa2.heap.size [.int .i64 5, .int .i64 (1 + p1), .int .i64 (1 + p2), .int .i64 (1 + (1 + p2) % 3), .int .i64 (1 + p3), .int .i64 0, .bool false] := BE.set 3 [.int .i64 (1 + (1 + p2) % 3)] (by exact Nat.le_of_ble_eq_true rfl)
              have HF : Bx (XE.setCell ⟨wa2.heap.size, 3, none⟩ (.int .i64 (1 + (1 + p2) % 3))) w6.heap.size [.int .i64 s.kind, .int .i64 s.ev.kind, .int .i64 s.ev.key, .int .i64 s.ev.ch, .int .i64 s.ev.to, .int .i64 s.ev.amt, .int .i64 s.ev.fee, .bool s.ev.yes, .slice ka s.keep.length kc, .int .i64 s.lo, .int .i64 s.hi, .int .i64 s.step, .int .i64 s.mn, .int .i64 s.mx] := HE.other wa2.heap.size 3 [.int .i64 (1 + (1 + p2) % 3)] (by omega)
              have EF := EE.setCell (b := wa2.heap.size) (o := 3) hzE (.int .i64 (1 + (1 + p2) % 3))
              have NF := NE.kept (Ex.of_grown (grown_setCell XE wa2.heap.size 3 (.int .i64 (1 + (1 + p2) % 3)))) NB7.out
              generalize XE.setCell ⟨wa2.heap.size, 3, none⟩ (.int .i64 (1 + (1 + p2) % 3)) = XF at BF HF EF NF ⊢
              clear BE HE EE NE c2 c3 f3
              have d0 := BF.cell 0 _ rfl
              have d1 := BF.cell 1 _ rfl
              have d2 := BF.cell 2 _ rfl
              have d3 := BF.cell 3 _ rfl
              have d4 := BF.cell 4 _ rfl
              have d5 := BF.cell 5 _ rfl
              have d6 := BF.cell 6 _ rfl
              go_wp2_with ((show Go.wpList _ _ _ ((Go.Oper.mk _ (Go.Op.store 79 _ _) _ _ _ _) :: _) _ _); refine wpList_store_row infStp rfl _ _ rfl (w6.heap.size) 0 [.int .i64 1, .int .i64 5, .int .i64 (1 + p1), .int .i64 (1 + p2), .int .i64 (1 + (1 + p2) % 3), .int .i64 (1 + p3), .int .i64 0, .bool false, .slice none 0 0, .int .i64 0, .int .i64 0, .int .i64 0, .int .i64 0, .int .i64 0] rfl rfl (HF.there 0 14 (by exact Nat.le_of_ble_eq_true rfl)) rfl (fun v hv => by simp only [List.mem_cons, List.not_mem_nil, or_false] at hv; rcases hv with rfl | rfl | rfl | rfl | rfl | rfl | rfl | rfl | rfl | rfl | rfl | rfl | rfl | rfl <;> rfl) ?_)
              go_meet
              case rel => exact ⟨({ St.zero with kind := 1, ev := ⟨5, 1 + p1, 1 + p2, 1 + (1 + p2) % 3, 1 + p3, 0, false⟩ } : St), none, 0, HF.set1 (vs := [.int .i64 1, .int .i64 5, .int .i64 (1 + p1), .int .i64 (1 + p2), .int .i64 (1 + (1 + p2) % 3), .int .i64 (1 + p3), .int .i64 0, .bool false, .slice none 0 0, .int .i64 0, .int .i64 0, .int .i64 0, .int .i64 0, .int .i64 0]) rfl, World.ownsRow_nil _ _ _ _, Nat.zero_le _, (fun n hn => by cases hn), NF.kept (Ex.of_grown (grown_setsS w6.heap.size [.int .i64 1, .int .i64 5, .int .i64 (1 + p1), .int .i64 (1 + p2), .int .i64 (1 + (1 + p2) % 3), .int .i64 (1 + p3), .int .i64 0, .bool false, .slice none 0 0, .int .i64 0, .int .i64 0, .int .i64 0, .int .i64 0, .int .i64 0] 0 XF)) HNB.out, EF.setCells z6 [.int .i64 1, .int .i64 5, .int .i64 (1 + p1), .int .i64 (1 + p2), .int .i64 (1 + (1 + p2) % 3), .int .i64 (1 + p3), .int .i64 0, .bool false, .slice none 0 0, .int .i64 0, .int .i64 0, .int .i64 0, .int .i64 0, .int .i64 0] 0 XF⟩
            · have e1 : (q == 0) = false := by simp [hq]
              clear hq hq0
              go_wp2_with fail
              go_meet
              case rel => exact ⟨s, ka, kc, HX7, O7, hk6, HKS, N7, E7⟩
          case rest =>
            clear HX7 O7 hk6 HKS N7 E7
            obtain ⟨s, ka, kc, HX8, O8, hk8, HK8, N8, E8⟩ := hcut
            have HFR : Hid (∀ k ∈ (Value.slice ka s.keep.length kc).ownBlock.toList, k ∉ blks (.slice va ys.length vc :: vs)) := fun k hk hb => by have h1 := (own_lt O8 k hk).1; have h2 := hbl.out k hb; omega
            have hin8 := OwnF.le (OwnI.inr.1 O8) (B' := w.heap.size) zw
            have z8 := E8.size
            go_wp2_with (first | ((show Go.wpList _ _ _ ((Go.Oper.mk _ (Go.Op.load 79 _) _ _ _ _) :: _) _ _); refine wpList_load_row unStp infStp rfl _ rfl (w6.heap.size) 0 rfl [.int .i64 s.kind, .int .i64 s.ev.kind, .int .i64 s.ev.key, .int .i64 s.ev.ch, .int .i64 s.ev.to, .int .i64 s.ev.amt, .int .i64 s.ev.fee, .bool s.ev.yes, .slice ka s.keep.length kc, .int .i64 s.lo, .int .i64 s.hi, .int .i64 s.step, .int .i64 s.mn, .int .i64 s.mx] HX8.at_ rfl ?_) | (at_builtin; refine wpList_append_on (K := StepK) infoStep Tryz.underlying66 rfl (by decide) (by decide) StepK_one rfl _ _ rfl w.heap.size _ _ _ rfl (N8.keep (by (repeat (first | (with_reducible exact Below.refl _ _) | (with_reducible assumption) | (with_reducible refine Below.setCell ?_ ?side _; case side => first | (with_reducible exact Nat.le_refl _) | (simp; done) | (simp only [World.size_alloc, World.size_setCell, World.size_drew, World.heap_drewN] at *; omega)) | (with_reducible refine below_alloc ?_ _) | (with_reducible refine Below.drew ?_) | (with_reducible refine below_drewN ?_) | (with_reducible refine below_via (by assumption) ?_))))) _ s (.slice ka s.keep.length kc) rfl rfl (new_cells _ _ _ rfl) (by have := hyl.out; omega) (Nat.le_trans z8 (size_alloc_le _ _)) (by decide) (OwnF.keep hin8 (by (repeat (first | (with_reducible exact Below.refl _ _) | (with_reducible assumption) | (with_reducible refine Below.setCell ?_ ?side _; case side => first | (with_reducible exact Nat.le_refl _) | (simp; done) | (simp only [World.size_alloc, World.size_setCell, World.size_drew, World.heap_drewN] at *; omega)) | (with_reducible refine below_alloc ?_ _) | (with_reducible refine Below.drew ?_) | (with_reducible refine below_drewN ?_) | (with_reducible refine below_via (by assumption) ?_))))) trivial HK8.out HFR.out ?_))
            intro v9 w9 hon9 hb9 hg9
            have D9 := Drew.own (E8.keep (below_alloc (Below.refl _ _) _)) hb9 (Nat.le_refl _)
            have HK9 : Hid (∀ t ∈ ys ++ [s], t.keep.length ≤ 6) := fun t ht => by
              rcases List.mem_append.1 ht with ht | ht
              · exact hks2.out t ht
              · rw [List.mem_singleton] at ht
                subst ht
                exact hk8
            obtain ⟨xa, xc, rfl, -, -⟩ := hon9.form
            clear HX8 O8 HK8 N8 E8 hin8 hb9 hg9
            go_wp2
            go_roundw
            case rel => exact ⟨kk - 1, ys ++ [s], vs ++ [.slice ka s.keep.length kc], by go_num, by rw [List.length_append, List.length_singleton]; have := hyl.out; omega, hon9, HK9, D9⟩
            case measure => simp only [intOf]; omega
        · have e : kk = 0 := by omega
          subst e
          obtain ⟨va, vc, rfl, hvc, hvm⟩ := hon.form
          go_wp2
          go_ret
          exact ⟨⟨_, ys, vs, rfl, hon, by omega, hks2.out⟩, D⟩

theorem own_is2 {w : World} {B : Nat} {a : Option Addr} {c : Nat} {xs : List Int} (h : OwnI w B (.slice a xs.length c) xs) (hm : ∀ n ∈ xs, I64 n) : IS w w.heap.size a xs.length xs := OI.is (⟨h, rfl, hm⟩ : OI w B a xs.length c xs)
theorem S_size (l : List UInt8) : (S l).size = l.length := by rw [← sz_len]

set_option maxRecDepth 100000 in
set_option maxHeartbeats 6400000 in
theorem l12Line_any (a : Option Addr) (len cap g : Nat) (w : World) (C0 : Cur w a len cap g) : Calls Tryz.prog 45 #[.pointer (some ⟨g, 0, none⟩)] w fun e w' =>
    (∃ z : ByteArray, e = .returned (.string z) ∧ z.size ≤ 400) ∧ Drew w a len cap g w' := by
  have hg := C0.lt
  go_enter Tryz.func45, Tryz.ntmps45
  go_wp2_with fail
  refine (l12AnyStep_any _ _ _ _ _ C0).mono ?_
  rintro e w1 ⟨⟨s, ka, kc, rfl, own, hk, hks⟩, D1⟩
  have I1 := own_is2 own hks
  have ht := s.text_len
  clear own hks
  go_wp2_with fail
  refine (stText_spec s.kind s.ev.kind s.ev.key s.ev.ch s.ev.to s.ev.amt s.ev.fee s.ev.yes ka s.keep.length kc s.keep s.lo s.hi s.step s.mn s.mx _ I1 (by omega)).mono ?_
  rintro e w2 ⟨rfl, b2⟩
  have D2 := D1.keep b2
  obtain ⟨z, hz⟩ : ∃ z, z = S s.text := ⟨_, rfl⟩
  have hz4 : z.size ≤ 357 := by rw [hz, S_size]; omega
  rw [show S (stText s.kind s.ev.kind s.ev.key s.ev.ch s.ev.to s.ev.amt s.ev.fee s.ev.yes s.keep s.lo s.hi s.step s.mn s.mx) = z from hz.symm]
  clear hz I1 b2 D1 ht hk
  by_cases h0 : z.size = 0
  · obtain ⟨q1, q2⟩ := str_em h0
    clear h0
    go_wp2_with fail
    have ng : ¬ w2.heap.size = g := by have := D2.cur.lt; omega
    refine (below_any _ _ _ _ 13 _ (D2.alloc _).cur).mono ?_
    rintro e w5 ⟨⟨y, rfl, hy0, hy1⟩, D5⟩
    have hy2 := hy1 (by omega)
    have E5 := (D2.alloc _).trans D5
    have cc := fun o => (Drew.rules D5).1 w2.heap.size o (by simp) ng
    obtain ⟨k, rfl⟩ : ∃ k : Nat, y = k := ⟨y.toNat, by omega⟩
    obtain ⟨t, ht, htz⟩ : ∃ t : ByteArray, w5.cell? ⟨w2.heap.size, k, none⟩ = some (.string t) ∧ t.size ≤ 40 := by
      rw [cc, World.cell?_alloc_at _ _ _ _ rfl]
      rcases (show k = 0 ∨ k = 1 ∨ k = 2 ∨ k = 3 ∨ k = 4 ∨ k = 5 ∨ k = 6 ∨ k = 7 ∨ k = 8 ∨ k = 9 ∨ k = 10 ∨ k = 11 ∨ k = 12 by omega) with rfl | rfl | rfl | rfl | rfl | rfl | rfl | rfl | rfl | rfl | rfl | rfl | rfl
      all_goals exact ⟨_, rfl, by decide⟩
    clear cc D5 hy1
    go_wp2_with fail
    go_ret
    exact ⟨⟨_, rfl, by rw [ByteArray.size_append]; omega⟩, E5⟩
  · obtain ⟨q1, q2⟩ := str_ne (s := z) (by omega)
    clear h0
    go_wp2_with fail
    refine (below_any _ _ _ _ 8 _ D2.cur).mono ?_
    rintro e w3 ⟨⟨x, rfl, hx0, hx1⟩, D3⟩
    have E3 := D2.trans D3
    clear D2 D3 hx1
    by_cases hx : x = 0
    · have e1 : (x == 0) = true := by simp [hx]
      clear hx hx0
      go_wp2_with fail
      have ng : ¬ w3.heap.size = g := by have := E3.cur.lt; omega
      refine (below_any _ _ _ _ 13 _ (E3.alloc _).cur).mono ?_
      rintro e w5 ⟨⟨y, rfl, hy0, hy1⟩, D5⟩
      have hy2 := hy1 (by omega)
      have E5 := (E3.alloc _).trans D5
      have cc := fun o => (Drew.rules D5).1 w3.heap.size o (by simp) ng
      obtain ⟨k, rfl⟩ : ∃ k : Nat, y = k := ⟨y.toNat, by omega⟩
      obtain ⟨t, ht, htz⟩ : ∃ t : ByteArray, w5.cell? ⟨w3.heap.size, k, none⟩ = some (.string t) ∧ t.size ≤ 40 := by
        rw [cc, World.cell?_alloc_at _ _ _ _ rfl]
        rcases (show k = 0 ∨ k = 1 ∨ k = 2 ∨ k = 3 ∨ k = 4 ∨ k = 5 ∨ k = 6 ∨ k = 7 ∨ k = 8 ∨ k = 9 ∨ k = 10 ∨ k = 11 ∨ k = 12 by omega) with rfl | rfl | rfl | rfl | rfl | rfl | rfl | rfl | rfl | rfl | rfl | rfl | rfl
        all_goals exact ⟨_, rfl, by decide⟩
      clear cc D5 hy1
      go_wp2_with fail
      go_ret
      exact ⟨⟨_, rfl, by rw [ByteArray.size_append]; omega⟩, E5⟩
    · have e1 : (x == 0) = false := by simp [hx]
      clear hx hx0
      go_wp2_with fail
      go_ret
      exact ⟨⟨z, rfl, by omega⟩, E3⟩

set_option maxRecDepth 100000 in
set_option maxHeartbeats 6400000 in
theorem l12Script_any (a : Option Addr) (len cap g : Nat) (w : World) (C0 : Cur w a len cap g) : Calls Tryz.prog 43 #[.pointer (some ⟨g, 0, none⟩), .int .i64 10] w fun e w' =>
    (∃ z : ByteArray, e = .returned (.string z) ∧ z.size ≤ 8000) ∧ Drew w a len cap g w' := by
  have hg := C0.lt
  go_enter Tryz.func43, Tryz.ntmps43
  go_wp2_with fail
  refine (l12Steps_any _ _ _ _ _ C0).mono ?_
  rintro e w1 ⟨⟨v, xs, us, rfl, hon, hxl, hks⟩, D1⟩
  have V := hon.vn
  obtain ⟨va, n, vc, rfl, hnc, hnil, hxn, hmx, -⟩ := V.at_
  have hn18 : n ≤ 18 := by omega
  have HKS := Lib.hid hks
  have HX := Lib.hid hxn
  clear hon hxl hks hxn hnil
  go_wp2
  go_loopw [5, 7, 12] (fun t _ i wr => ∃ (k : Nat) (z : ByteArray), k ≤ n ∧ i = .int .i64 k ∧ t = .string z ∧ z.size ≤ 400 * k ∧ Below w1.heap.size w1 wr) (fun _ _ i _ => n - (intOf i).toNat)
  case atStart => exact ⟨0, ⟨#[]⟩, Nat.zero_le _, rfl, rfl, Nat.le_refl _, Below.refl _ _⟩
  case round =>
    obtain ⟨k, z, hk, rfl, rfl, hz, hB⟩ := hrel
    by_cases hlt : k < n
    · obtain ⟨va', n', vc', he, -, -, -, -, hat⟩ := (V.keep hB).at_
      injection he with he1 he2 he3
      subst he1
      subst he2
      subst he3
      obtain ⟨b, off, s, u, rfl, hb, -, hu, hc, hx, -⟩ := hat k hlt
      obtain ⟨ua, m, uc, rfl, -, -, hf⟩ := hu
      have I0 : IS wr wr.heap.size ua m s.keep := InV.is hf
      have hm : s.keep.length = m := I0.1
      have hs6 := HKS.out s (List.mem_of_getElem? hx.out)
      have ht := s.text_len
      have hrg : wr.rangeAt b (off + k * 14) [.int .i64 s.kind, .int .i64 s.ev.kind, .int .i64 s.ev.key, .int .i64 s.ev.ch, .int .i64 s.ev.to, .int .i64 s.ev.amt, .int .i64 s.ev.fee, .bool s.ev.yes, .slice ua m uc, .int .i64 s.lo, .int .i64 s.hi, .int .i64 s.step, .int .i64 s.mn, .int .i64 s.mx] := fun j v hj => hc j v hj
      obtain ⟨t, hT⟩ : ∃ t, t = S s.text := ⟨_, rfl⟩
      have htz : t.size ≤ 357 := by rw [hT, S_size]; omega
      have HT := Lib.hid hT
      clear hat hc hf hx hT ht
      have Q0 : Bx (wr.alloc (.cells #[.int .i64 0, .int .i64 0, .int .i64 0, .int .i64 0, .int .i64 0, .int .i64 0, .int .i64 0, .bool false, .slice none 0 0, .int .i64 0, .int .i64 0, .int .i64 0, .int .i64 0, .int .i64 0] 79)) wr.heap.size [.int .i64 0, .int .i64 0, .int .i64 0, .int .i64 0, .int .i64 0, .int .i64 0, .int .i64 0, .bool false, .slice none 0 0, .int .i64 0, .int .i64 0, .int .i64 0, .int .i64 0, .int .i64 0] := Bx.new _ _ _ [.int .i64 0, .int .i64 0, .int .i64 0, .int .i64 0, .int .i64 0, .int .i64 0, .int .i64 0, .bool false, .slice none 0 0, .int .i64 0, .int .i64 0, .int .i64 0, .int .i64 0, .int .i64 0] rfl (by exact Nat.zero_lt_succ _) _ rfl
      go_upto_region 5 with (first | ((show Go.wpList _ _ _ ((Go.Oper.mk _ (Go.Op.load 79 _) _ _ _ _) :: _) _ _); refine wpList_load_row unStp infStp rfl _ rfl b (off + k * 14) rfl [.int .i64 s.kind, .int .i64 s.ev.kind, .int .i64 s.ev.key, .int .i64 s.ev.ch, .int .i64 s.ev.to, .int .i64 s.ev.amt, .int .i64 s.ev.fee, .bool s.ev.yes, .slice ua m uc, .int .i64 s.lo, .int .i64 s.hi, .int .i64 s.step, .int .i64 s.mn, .int .i64 s.mx] hrg rfl ?_) | ((show Go.wpList _ _ _ ((Go.Oper.mk _ (Go.Op.store 79 _ _) _ _ _ _) :: _) _ _); refine wpList_store_row infStp rfl _ _ rfl (wr.heap.size) 0 [.int .i64 s.kind, .int .i64 s.ev.kind, .int .i64 s.ev.key, .int .i64 s.ev.ch, .int .i64 s.ev.to, .int .i64 s.ev.amt, .int .i64 s.ev.fee, .bool s.ev.yes, .slice ua m uc, .int .i64 s.lo, .int .i64 s.hi, .int .i64 s.step, .int .i64 s.mn, .int .i64 s.mx] rfl rfl (Q0.there 0 14 (by exact Nat.le_of_ble_eq_true rfl)) rfl (fun v hv => by simp only [List.mem_cons, List.not_mem_nil, or_false] at hv; rcases hv with rfl | rfl | rfl | rfl | rfl | rfl | rfl | rfl | rfl | rfl | rfl | rfl | rfl | rfl <;> rfl) ?_))
      have HX5 := Q0.set1 (vs := [.int .i64 s.kind, .int .i64 s.ev.kind, .int .i64 s.ev.key, .int .i64 s.ev.ch, .int .i64 s.ev.to, .int .i64 s.ev.amt, .int .i64 s.ev.fee, .bool s.ev.yes, .slice ua m uc, .int .i64 s.lo, .int .i64 s.hi, .int .i64 s.step, .int .i64 s.mn, .int .i64 s.mx]) rfl
      have b5 : Below wr.heap.size wr ((wr.alloc (.cells #[.int .i64 0, .int .i64 0, .int .i64 0, .int .i64 0, .int .i64 0, .int .i64 0, .int .i64 0, .bool false, .slice none 0 0, .int .i64 0, .int .i64 0, .int .i64 0, .int .i64 0, .int .i64 0] 79)).setCells wr.heap.size 0 [.int .i64 s.kind, .int .i64 s.ev.kind, .int .i64 s.ev.key, .int .i64 s.ev.ch, .int .i64 s.ev.to, .int .i64 s.ev.amt, .int .i64 s.ev.fee, .bool s.ev.yes, .slice ua m uc, .int .i64 s.lo, .int .i64 s.hi, .int .i64 s.step, .int .i64 s.mn, .int .i64 s.mx]) := below_setCells2 (Nat.le_refl _) [.int .i64 s.kind, .int .i64 s.ev.kind, .int .i64 s.ev.key, .int .i64 s.ev.ch, .int .i64 s.ev.to, .int .i64 s.ev.amt, .int .i64 s.ev.fee, .bool s.ev.yes, .slice ua m uc, .int .i64 s.lo, .int .i64 s.hi, .int .i64 s.step, .int .i64 s.mn, .int .i64 s.mx] _ _ (below_alloc (Below.refl _ _) _)
      have I5 := I0.keep b5
      have hB5 := below_via b5 hB
      generalize (wr.alloc (.cells #[.int .i64 0, .int .i64 0, .int .i64 0, .int .i64 0, .int .i64 0, .int .i64 0, .int .i64 0, .bool false, .slice none 0 0, .int .i64 0, .int .i64 0, .int .i64 0, .int .i64 0, .int .i64 0] 79)).setCells wr.heap.size 0 [.int .i64 s.kind, .int .i64 s.ev.kind, .int .i64 s.ev.key, .int .i64 s.ev.ch, .int .i64 s.ev.to, .int .i64 s.ev.amt, .int .i64 s.ev.fee, .bool s.ev.yes, .slice ua m uc, .int .i64 s.lo, .int .i64 s.hi, .int .i64 s.step, .int .i64 s.mn, .int .i64 s.mx] = X5 at HX5 b5 I5 hB5 ⊢
      clear Q0 hrg I0 b5
      go_wp2_with ((show Go.wpList _ _ _ ((Go.Oper.mk _ (Go.Op.load 79 _) _ _ _ _) :: _) _ _); refine wpList_load_row unStp infStp rfl _ rfl (wr.heap.size) 0 rfl [.int .i64 s.kind, .int .i64 s.ev.kind, .int .i64 s.ev.key, .int .i64 s.ev.ch, .int .i64 s.ev.to, .int .i64 s.ev.amt, .int .i64 s.ev.fee, .bool s.ev.yes, .slice ua m uc, .int .i64 s.lo, .int .i64 s.hi, .int .i64 s.step, .int .i64 s.mn, .int .i64 s.mx] HX5.at_ rfl ?_)
      refine (stText_spec s.kind s.ev.kind s.ev.key s.ev.ch s.ev.to s.ev.amt s.ev.fee s.ev.yes ua m uc s.keep s.lo s.hi s.step s.mn s.mx _ I5 (by omega)).mono ?_
      rintro e w6 ⟨rfl, b6⟩
      rw [show S (stText s.kind s.ev.kind s.ev.key s.ev.ch s.ev.to s.ev.amt s.ev.fee s.ev.yes s.keep s.lo s.hi s.step s.mn s.mx) = t from HT.out.symm]
      have hB6 := below_via b6 hB5
      clear HX5 I5 b6 hB5
      go_wp2
      go_roundw
      case rel => exact ⟨k + 1, _, by omega, by go_num, rfl, by rw [ByteArray.size_append, ByteArray.size_append]; have : (⟨#[10]⟩ : ByteArray).size = 1 := rfl; omega, hB6⟩
      case measure => simp only [intOf]; omega
    · go_wp2
      go_ret
      exact ⟨⟨z, rfl, by omega⟩, D1.keep hB⟩

set_option maxRecDepth 100000 in
set_option maxHeartbeats 6400000 in
theorem drawReadScript_any (a : Option Addr) (len cap : Nat) (xs : List Int) (w : World) (S0 : Bs w w.heap.size a len xs) : Calls Tryz.prog 16 #[.slice a len cap] w fun e w' =>
    (∃ z : ByteArray, e = .returned (.string z) ∧ z.size ≤ 20000) ∧ Below w.heap.size w w' := by
  go_enter Tryz.func16, Tryz.ntmps16
  go_wp2_with fail
  refine (new_any _ _ _ xs _ S0).mono ?_
  rintro e w1 ⟨rfl, C1, H0⟩
  go_wp2_with fail
  refine (l12Script_any _ _ _ _ _ C1).mono ?_
  rintro e w2 ⟨⟨z, rfl, hz⟩, D2⟩
  go_wp2_with fail
  refine (below_any _ _ _ _ 2 _ D2.cur).mono ?_
  rintro e w3 ⟨⟨x, rfl, hx0, hx1⟩, D3⟩
  have E3 := D2.trans D3
  clear D2 D3 hx1
  go_upto_if 12 with fail
  go_cut [4] (fun v wq => (∃ z : ByteArray, v = .string z ∧ z.size ≤ 8500) ∧ Drew w1 a len cap w.heap.size wq)
  case first =>
    by_cases hx : x = 0
    · have e1 : (x == 0) = true := by simp [hx]
      clear hx hx0
      go_wp2_with fail
      refine (l12Line_any _ _ _ _ _ E3.cur).mono ?_
      rintro e w4 ⟨⟨y, rfl, hy⟩, D4⟩
      have E4 := E3.trans D4
      have ng : ¬ w4.heap.size = w.heap.size := by have := E4.cur.lt; omega
      clear E3 D4
      go_wp2_with fail
      refine (below_any _ _ _ _ 3 _ (E4.alloc _).cur).mono ?_
      rintro e w5 ⟨⟨q, rfl, hq0, hq1⟩, D5⟩
      have hq2 := hq1 (by omega)
      have E5 := (E4.alloc _).trans D5
      have cc := fun o => (Drew.rules D5).1 w4.heap.size o (by simp) ng
      obtain ⟨k, rfl⟩ : ∃ k : Nat, q = k := ⟨q.toNat, by omega⟩
      obtain ⟨t, ht, htz⟩ : ∃ t : ByteArray, w5.cell? ⟨w4.heap.size, k, none⟩ = some (.string t) ∧ t.size ≤ 40 := by
        rw [cc, World.cell?_alloc_at _ _ _ _ rfl]
        rcases (show k = 0 ∨ k = 1 ∨ k = 2 by omega) with rfl | rfl | rfl
        all_goals exact ⟨_, rfl, by decide⟩
      clear cc D5 hq1 E4
      go_wp2_with fail
      go_meet
      case rel => exact ⟨⟨_, rfl, by rw [ByteArray.size_append, ByteArray.size_append]; omega⟩, E5⟩
    · have e1 : (x == 0) = false := by simp [hx]
      clear hx hx0
      go_wp2_with fail
      go_meet
      case rel => exact ⟨⟨z, rfl, by omega⟩, E3⟩
  case rest =>
    clear E3 hx0 hz
    obtain ⟨⟨z, rfl, hz⟩, E4⟩ := hcut
    go_wp2_with fail
    refine (below_any _ _ _ _ 40 _ E4.cur).mono ?_
    rintro e w5 ⟨⟨x, rfl, hx0, hx1⟩, D5⟩
    have E5 := E4.trans D5
    clear E4 D5 hx1
    go_upto_if 25 with fail
    go_cut [4] (fun v wq => (∃ z : ByteArray, v = .string z ∧ z.size ≤ 12000) ∧ Drew w1 a len cap w.heap.size wq)
    case first =>
      by_cases hx : x = 0
      · have e1 : (x == 0) = true := by simp [hx]
        clear hx hx0
        go_wp2
        go_loopw [4, 5] (fun v i wq => ∃ (k : Nat) (y : ByteArray), k ≤ 292 ∧ i = .int .i64 k ∧ v = .string y ∧ y.size + 5 * k ≤ 12000 ∧ wq = w5) (fun _ i _ => (intOf i).toNat)
        case atStart => exact ⟨292, z, Nat.le_refl _, rfl, rfl, by omega, rfl⟩
        case round =>
          obtain ⟨k, y, hk, rfl, rfl, hy, rfl⟩ := hrel
          by_cases hk0 : 0 < k
          · go_wp2
            go_roundw
            case rel => exact ⟨k - 1, _, by omega, by go_num, rfl, by rw [ByteArray.size_append]; have : (⟨#[115, 121, 110, 99, 10]⟩ : ByteArray).size = 5 := rfl; omega, by first | rfl | trivial⟩
            case measure => simp only [intOf]; omega
          · have e : k = 0 := by omega
            subst e
            go_wp2
            go_meet
            case rel => exact ⟨⟨y, rfl, by omega⟩, E5⟩
      · have e1 : (x == 0) = false := by simp [hx]
        clear hx hx0
        go_wp2_with fail
        go_meet
        case rel => exact ⟨⟨z, rfl, by omega⟩, E5⟩
    case rest =>
      clear E5 hx0 hz
      obtain ⟨⟨z, rfl, hz⟩, E6⟩ := hcut
      go_wp2_with fail
      refine (below_any _ _ _ _ 60 _ E6.cur).mono ?_
      rintro e w7 ⟨⟨x, rfl, hx0, hx1⟩, D7⟩
      have E7 := E6.trans D7
      clear E6 D7 hx1
      by_cases hx : x = 0
      · have e1 : (x == 0) = true := by simp [hx]
        clear hx hx0
        go_wp2
        go_loopw [4] (fun v wq => ∃ (y : ByteArray), v = .string y ∧ y.size ≤ 12000 ∧ Drew w1 a len cap w.heap.size wq) (fun v _ => 20000 - (match v with | .string y => y.size | _ => 0))
        case atStart => exact ⟨z, rfl, hz, E7⟩
        case round =>
          clear E7
          obtain ⟨y, rfl, hy, E8⟩ := hrel
          go_wp2_with fail
          refine (below_any _ _ _ _ 2 _ E8.cur).mono ?_
          rintro e w9 ⟨⟨q, rfl, hq0, hq1⟩, D9⟩
          have hq2 := hq1 (by omega)
          have E9 := E8.trans D9
          clear E8 D9 hq1
          by_cases hl : (y.size : Int) < 8000 + q
          · go_wp2
            go_roundw
            case rel => exact ⟨_, rfl, by rw [ByteArray.size_append]; have : (⟨#[35]⟩ : ByteArray).size = 1 := rfl; omega, E9⟩
            case measure => simp only [ByteArray.size_append]; have : (⟨#[35]⟩ : ByteArray).size = 1 := rfl; omega
          · go_wp2
            go_ret
            exact ⟨⟨y, rfl, by omega⟩, Drew.below H0 E9⟩
      · have e1 : (x == 0) = false := by simp [hx]
        clear hx hx0
        go_wp2_with fail
        go_ret
        exact ⟨⟨z, rfl, by omega⟩, Drew.below H0 E7⟩

set_option maxRecDepth 100000 in
set_option maxHeartbeats 6400000 in
theorem walk_FnScript (a : Option Addr) (len cap : Nat) (cs : List Int) (w : World) (S0 : Bs w w.heap.size a len cs) (T0 : LV w) : Calls Tryz.prog 5 #[.slice a len cap] w fun e w' => e = .returned (.bool true) ∧ Below w.heap.size w w' := by
  have hl := S0.lenB
  by_cases hlen : len ≤ 1048576
  · go_enter Tryz.func5, Tryz.ntmps5
    go_wp2_with fail
    refine (drawReadScript_any _ _ _ cs _ S0).mono ?_
    rintro e w1 ⟨⟨s, rfl, hs⟩, b1⟩
    have T1 := T0.keep b1
    have hsl := sz_len s
    obtain ⟨L, hL⟩ : ∃ L, L = (script s.data.toList).1 := ⟨_, rfl⟩
    obtain ⟨ln, hln⟩ : ∃ ln, ln = (script s.data.toList).2 := ⟨_, rfl⟩
    have hok : ∀ x ∈ L, x.keep.length ≤ 1048576 ∧ (∀ n ∈ x.keep, -1125899906842624 ≤ n ∧ n ≤ 1125899906842624) ∧ x.text ≠ [] ∧ x.text.length ≤ 1048576 ∧ tsOk x.text = true ∧ ts x.text = x := fun x hx => script_ok (l := s.data.toList) (by omega) (by rw [hL] at hx; exact hx)
    obtain ⟨N, hN⟩ : ∃ N, N = L.length := ⟨_, rfl⟩
    have hN3 : N ≤ 300 := by rw [hN, hL]; exact script_len _
    have HOK := Lib.hid hok
    have HL := Lib.hid hL
    have HLN := Lib.hid hln
    have HN := Lib.hid hN
    have hs2 : s.size ≤ 1048576 := by omega
    clear hok hL hln hN hsl hs
    go_wp2_with fail
    refine (read_impl s hs2 _ T1).mono ?_
    rintro e w2 ⟨⟨v, us, rfl, O2⟩, b2⟩
    rw [← HL.out] at O2
    rw [← HLN.out]
    have B2 : Below w.heap.size w w2 := below_via b2 b1
    obtain ⟨va, vc, rfl, -, -⟩ := O2.form
    rw [← HN.out] at O2 ⊢
    go_wp2_with fail
    refine (read_spec s hs2 _).mono ?_
    rintro e w3 ⟨⟨v3, us3, rfl, O3⟩, b3⟩
    rw [← HL.out] at O3
    rw [← HLN.out]
    have B3 : Below w.heap.size w w3 := below_via b3 B2
    obtain ⟨va3, vc3, rfl, -, -⟩ := O3.form
    rw [← HN.out]
    have V := O2.vn.keep b3
    have T3 := T0.keep B3
    clear O2 O3 b1 b2 b3 B2 T1
    go_wp2
    go_loopw [9, 10, 11, 12, 40] (fun _ _ _ _ i wr => ∃ k : Nat, k ≤ N ∧ i = .int .i64 k ∧ Below w3.heap.size w3 wr) (fun _ _ _ _ i _ => N - (intOf i).toNat)
    case atStart => exact ⟨0, Nat.zero_le _, rfl, Below.refl _ _⟩
    case round =>
      obtain ⟨k, hk, rfl, hB⟩ := hrel
      by_cases hlt : k < N
      · obtain ⟨va', n', vc', he, -, -, -, -, hat⟩ := (V.keep hB).at_
        injection he with he1 he2 he3
        subst he1
        subst he2
        subst he3
        obtain ⟨b, off, x, u, rfl, hb, -, hu, hc, hx, -⟩ := hat k hlt
        obtain ⟨ua, m, uc, rfl, -, -, hf⟩ := hu
        have I0 : IS wr wr.heap.size ua m x.keep := InV.is hf
        have hm : x.keep.length = m := I0.1
        obtain ⟨o1, o2, o3, o4, o5, o6⟩ := HOK.out x (List.mem_of_getElem? hx.out)
        have hm2 : m ≤ 1048576 := by omega
        have hrg : wr.rangeAt b (off + k * 14) [.int .i64 x.kind, .int .i64 x.ev.kind, .int .i64 x.ev.key, .int .i64 x.ev.ch, .int .i64 x.ev.to, .int .i64 x.ev.amt, .int .i64 x.ev.fee, .bool x.ev.yes, .slice ua m uc, .int .i64 x.lo, .int .i64 x.hi, .int .i64 x.step, .int .i64 x.mn, .int .i64 x.mx] := fun j v hj => hc j v hj
        obtain ⟨t, hT⟩ : ∃ t, t = S x.text := ⟨_, rfl⟩
        have htz : t.size ≤ 1048576 := by rw [hT, S_size]; exact o4
        have htd : t.data.toList = x.text := by rw [hT]
        obtain ⟨q1, q2⟩ := str_ne (s := t) (by rw [hT, S_size]; exact List.length_pos_iff.2 o3)
        have HT := Lib.hid hT
        have HTS : Hid (tsOk t.data.toList = true ∧ ts t.data.toList = x) := by unfold Hid; rw [htd]; exact ⟨o5, o6⟩
        have HKB : Hid (∀ n ∈ x.keep, I64 n) := fun n hn => by have := o2 n hn; unfold I64; omega
        have HM := Lib.hid hm
        have TB := T3.keep hB
        have hBw := B3.trans (hB.mono B3.size)
        clear hat hc hf hx hT htd o1 o2 o3 o4 o5 o6 hm
        have Q0 : Bx (wr.alloc (.cells #[.int .i64 0, .int .i64 0, .int .i64 0, .int .i64 0, .int .i64 0, .int .i64 0, .int .i64 0, .bool false, .slice none 0 0, .int .i64 0, .int .i64 0, .int .i64 0, .int .i64 0, .int .i64 0] 79)) wr.heap.size [.int .i64 0, .int .i64 0, .int .i64 0, .int .i64 0, .int .i64 0, .int .i64 0, .int .i64 0, .bool false, .slice none 0 0, .int .i64 0, .int .i64 0, .int .i64 0, .int .i64 0, .int .i64 0] := Bx.new _ _ _ [.int .i64 0, .int .i64 0, .int .i64 0, .int .i64 0, .int .i64 0, .int .i64 0, .int .i64 0, .bool false, .slice none 0 0, .int .i64 0, .int .i64 0, .int .i64 0, .int .i64 0, .int .i64 0] rfl (by exact Nat.zero_lt_succ _) _ rfl
        go_upto_region 11 with (first | ((show Go.wpList _ _ _ ((Go.Oper.mk _ (Go.Op.load 79 _) _ _ _ _) :: _) _ _); refine wpList_load_row unStp infStp rfl _ rfl b (off + k * 14) rfl [.int .i64 x.kind, .int .i64 x.ev.kind, .int .i64 x.ev.key, .int .i64 x.ev.ch, .int .i64 x.ev.to, .int .i64 x.ev.amt, .int .i64 x.ev.fee, .bool x.ev.yes, .slice ua m uc, .int .i64 x.lo, .int .i64 x.hi, .int .i64 x.step, .int .i64 x.mn, .int .i64 x.mx] hrg rfl ?_) | ((show Go.wpList _ _ _ ((Go.Oper.mk _ (Go.Op.store 79 _ _) _ _ _ _) :: _) _ _); refine wpList_store_row infStp rfl _ _ rfl (wr.heap.size) 0 [.int .i64 x.kind, .int .i64 x.ev.kind, .int .i64 x.ev.key, .int .i64 x.ev.ch, .int .i64 x.ev.to, .int .i64 x.ev.amt, .int .i64 x.ev.fee, .bool x.ev.yes, .slice ua m uc, .int .i64 x.lo, .int .i64 x.hi, .int .i64 x.step, .int .i64 x.mn, .int .i64 x.mx] rfl rfl (Q0.there 0 14 (by exact Nat.le_of_ble_eq_true rfl)) rfl (fun v hv => by simp only [List.mem_cons, List.not_mem_nil, or_false] at hv; rcases hv with rfl | rfl | rfl | rfl | rfl | rfl | rfl | rfl | rfl | rfl | rfl | rfl | rfl | rfl <;> rfl) ?_))
        have HX5 := Q0.set1 (vs := [.int .i64 x.kind, .int .i64 x.ev.kind, .int .i64 x.ev.key, .int .i64 x.ev.ch, .int .i64 x.ev.to, .int .i64 x.ev.amt, .int .i64 x.ev.fee, .bool x.ev.yes, .slice ua m uc, .int .i64 x.lo, .int .i64 x.hi, .int .i64 x.step, .int .i64 x.mn, .int .i64 x.mx]) rfl
        have b5 : Below wr.heap.size wr ((wr.alloc (.cells #[.int .i64 0, .int .i64 0, .int .i64 0, .int .i64 0, .int .i64 0, .int .i64 0, .int .i64 0, .bool false, .slice none 0 0, .int .i64 0, .int .i64 0, .int .i64 0, .int .i64 0, .int .i64 0] 79)).setCells wr.heap.size 0 [.int .i64 x.kind, .int .i64 x.ev.kind, .int .i64 x.ev.key, .int .i64 x.ev.ch, .int .i64 x.ev.to, .int .i64 x.ev.amt, .int .i64 x.ev.fee, .bool x.ev.yes, .slice ua m uc, .int .i64 x.lo, .int .i64 x.hi, .int .i64 x.step, .int .i64 x.mn, .int .i64 x.mx]) := below_setCells2 (Nat.le_refl _) [.int .i64 x.kind, .int .i64 x.ev.kind, .int .i64 x.ev.key, .int .i64 x.ev.ch, .int .i64 x.ev.to, .int .i64 x.ev.amt, .int .i64 x.ev.fee, .bool x.ev.yes, .slice ua m uc, .int .i64 x.lo, .int .i64 x.hi, .int .i64 x.step, .int .i64 x.mn, .int .i64 x.mx] _ _ (below_alloc (Below.refl _ _) _)
        have I5 := I0.keep b5
        have hB5 := below_via b5 hB
        have T5 := TB.keep b5
        generalize (wr.alloc (.cells #[.int .i64 0, .int .i64 0, .int .i64 0, .int .i64 0, .int .i64 0, .int .i64 0, .int .i64 0, .bool false, .slice none 0 0, .int .i64 0, .int .i64 0, .int .i64 0, .int .i64 0, .int .i64 0] 79)).setCells wr.heap.size 0 [.int .i64 x.kind, .int .i64 x.ev.kind, .int .i64 x.ev.key, .int .i64 x.ev.ch, .int .i64 x.ev.to, .int .i64 x.ev.amt, .int .i64 x.ev.fee, .bool x.ev.yes, .slice ua m uc, .int .i64 x.lo, .int .i64 x.hi, .int .i64 x.step, .int .i64 x.mn, .int .i64 x.mx] = X5 at HX5 b5 I5 hB5 T5 ⊢
        clear Q0 hrg I0 b5 TB hBw
        go_wp2_with ((show Go.wpList _ _ _ ((Go.Oper.mk _ (Go.Op.load 79 _) _ _ _ _) :: _) _ _); refine wpList_load_row unStp infStp rfl _ rfl (wr.heap.size) 0 rfl [.int .i64 x.kind, .int .i64 x.ev.kind, .int .i64 x.ev.key, .int .i64 x.ev.ch, .int .i64 x.ev.to, .int .i64 x.ev.amt, .int .i64 x.ev.fee, .bool x.ev.yes, .slice ua m uc, .int .i64 x.lo, .int .i64 x.hi, .int .i64 x.step, .int .i64 x.mn, .int .i64 x.mx] HX5.at_ rfl ?_)
        refine (stText_impl x.kind x.ev.kind x.ev.key x.ev.ch x.ev.to x.ev.amt x.ev.fee x.ev.yes ua m uc x.keep x.lo x.hi x.step x.mn x.mx _ I5 T5.pm (by omega)).mono ?_
        rintro e w6 ⟨rfl, b6⟩
        rw [show S (stText x.kind x.ev.kind x.ev.key x.ev.ch x.ev.to x.ev.amt x.ev.fee x.ev.yes x.keep x.lo x.hi x.step x.mn x.mx) = t from HT.out.symm]
        have hB6 := below_via b6 hB5
        have T6 := T5.keep b6
        clear HX5 I5 b6 hB5 T5
        go_wp2_with fail
        refine (textStep_impl t htz _ T6).mono ?_
        rintro e w7 ⟨⟨a7, c7, he, O7⟩, b7⟩
        rw [HTS.out.1, HTS.out.2] at he
        rw [HTS.out.2] at O7
        have I7 := own_is2 O7 HKB.out
        rw [HM.out] at I7
        rw [show x.cells a7 c7 = [.int .i64 x.kind, .int .i64 x.ev.kind, .int .i64 x.ev.key, .int .i64 x.ev.ch, .int .i64 x.ev.to, .int .i64 x.ev.amt, .int .i64 x.ev.fee, .bool x.ev.yes, .slice a7 m c7, .int .i64 x.lo, .int .i64 x.hi, .int .i64 x.step, .int .i64 x.mn, .int .i64 x.mx] from by unfold St.cells; rw [HM.out]] at he
        subst he
        have hB7 := below_via b7 hB6
        have T7 := T6.keep b7
        clear O7 b7 hB6 T6
        have Q7 : Bx (w7.alloc (.cells #[.int .i64 0, .int .i64 0, .int .i64 0, .int .i64 0, .int .i64 0, .int .i64 0, .int .i64 0, .bool false, .slice none 0 0, .int .i64 0, .int .i64 0, .int .i64 0, .int .i64 0, .int .i64 0] 79)) w7.heap.size [.int .i64 0, .int .i64 0, .int .i64 0, .int .i64 0, .int .i64 0, .int .i64 0, .int .i64 0, .bool false, .slice none 0 0, .int .i64 0, .int .i64 0, .int .i64 0, .int .i64 0, .int .i64 0] := Bx.new _ _ _ [.int .i64 0, .int .i64 0, .int .i64 0, .int .i64 0, .int .i64 0, .int .i64 0, .int .i64 0, .bool false, .slice none 0 0, .int .i64 0, .int .i64 0, .int .i64 0, .int .i64 0, .int .i64 0] rfl (by exact Nat.zero_lt_succ _) _ rfl
        go_upto_region 13 with ((show Go.wpList _ _ _ ((Go.Oper.mk _ (Go.Op.store 79 _ _) _ _ _ _) :: _) _ _); refine wpList_store_row infStp rfl _ _ rfl (w7.heap.size) 0 [.int .i64 x.kind, .int .i64 x.ev.kind, .int .i64 x.ev.key, .int .i64 x.ev.ch, .int .i64 x.ev.to, .int .i64 x.ev.amt, .int .i64 x.ev.fee, .bool x.ev.yes, .slice a7 m c7, .int .i64 x.lo, .int .i64 x.hi, .int .i64 x.step, .int .i64 x.mn, .int .i64 x.mx] rfl rfl (Q7.there 0 14 (by exact Nat.le_of_ble_eq_true rfl)) rfl (fun v hv => by simp only [List.mem_cons, List.not_mem_nil, or_false] at hv; rcases hv with rfl | rfl | rfl | rfl | rfl | rfl | rfl | rfl | rfl | rfl | rfl | rfl | rfl | rfl <;> rfl) ?_)
        have HX8 := Q7.set1 (vs := [.int .i64 x.kind, .int .i64 x.ev.kind, .int .i64 x.ev.key, .int .i64 x.ev.ch, .int .i64 x.ev.to, .int .i64 x.ev.amt, .int .i64 x.ev.fee, .bool x.ev.yes, .slice a7 m c7, .int .i64 x.lo, .int .i64 x.hi, .int .i64 x.step, .int .i64 x.mn, .int .i64 x.mx]) rfl
        have b8 : Below w7.heap.size w7 ((w7.alloc (.cells #[.int .i64 0, .int .i64 0, .int .i64 0, .int .i64 0, .int .i64 0, .int .i64 0, .int .i64 0, .bool false, .slice none 0 0, .int .i64 0, .int .i64 0, .int .i64 0, .int .i64 0, .int .i64 0] 79)).setCells w7.heap.size 0 [.int .i64 x.kind, .int .i64 x.ev.kind, .int .i64 x.ev.key, .int .i64 x.ev.ch, .int .i64 x.ev.to, .int .i64 x.ev.amt, .int .i64 x.ev.fee, .bool x.ev.yes, .slice a7 m c7, .int .i64 x.lo, .int .i64 x.hi, .int .i64 x.step, .int .i64 x.mn, .int .i64 x.mx]) := below_setCells2 (Nat.le_refl _) [.int .i64 x.kind, .int .i64 x.ev.kind, .int .i64 x.ev.key, .int .i64 x.ev.ch, .int .i64 x.ev.to, .int .i64 x.ev.amt, .int .i64 x.ev.fee, .bool x.ev.yes, .slice a7 m c7, .int .i64 x.lo, .int .i64 x.hi, .int .i64 x.step, .int .i64 x.mn, .int .i64 x.mx] _ _ (below_alloc (Below.refl _ _) _)
        have I8 := I7.keep b8
        have hB8 := below_via b8 hB7
        have T8 := T7.keep b8
        generalize (w7.alloc (.cells #[.int .i64 0, .int .i64 0, .int .i64 0, .int .i64 0, .int .i64 0, .int .i64 0, .int .i64 0, .bool false, .slice none 0 0, .int .i64 0, .int .i64 0, .int .i64 0, .int .i64 0, .int .i64 0] 79)).setCells w7.heap.size 0 [.int .i64 x.kind, .int .i64 x.ev.kind, .int .i64 x.ev.key, .int .i64 x.ev.ch, .int .i64 x.ev.to, .int .i64 x.ev.amt, .int .i64 x.ev.fee, .bool x.ev.yes, .slice a7 m c7, .int .i64 x.lo, .int .i64 x.hi, .int .i64 x.step, .int .i64 x.mn, .int .i64 x.mx] = X8 at HX8 b8 I8 hB8 T8 ⊢
        clear Q7 I7 b8 T7 hB7
        have g0 := HX8.cell 0 _ rfl
        have g1 := HX8.cell 1 _ rfl
        have g2 := HX8.cell 2 _ rfl
        have g3 := HX8.cell 3 _ rfl
        have g4 := HX8.cell 4 _ rfl
        have g5 := HX8.cell 5 _ rfl
        have g6 := HX8.cell 6 _ rfl
        have g7 := HX8.cell 7 _ rfl
        have g8 := HX8.cell 8 _ rfl
        have g9 := HX8.cell 9 _ rfl
        have g10 := HX8.cell 10 _ rfl
        have g11 := HX8.cell 11 _ rfl
        have g12 := HX8.cell 12 _ rfl
        have g13 := HX8.cell 13 _ rfl
        go_wp2_with fail
        refine (stText_impl x.kind x.ev.kind x.ev.key x.ev.ch x.ev.to x.ev.amt x.ev.fee x.ev.yes a7 m c7 x.keep x.lo x.hi x.step x.mn x.mx _ I8 T8.pm (by omega)).mono ?_
        rintro e w9 ⟨rfl, b9⟩
        rw [show S (stText x.kind x.ev.kind x.ev.key x.ev.ch x.ev.to x.ev.amt x.ev.fee x.ev.yes x.keep x.lo x.hi x.step x.mn x.mx) = t from HT.out.symm]
        have hB9 := below_via b9 hB8
        clear HX8 I8 b9 T8 hB8 g0 g1 g2 g3 g4 g5 g6 g7 g8 g9 g10 g11 g12 g13
        go_wp2
        go_roundw
        case rel => exact ⟨k + 1, by omega, by go_num, hB9⟩
        case measure => simp only [intOf]; omega
      · have hBw := B3.trans (hB.mono B3.size)
        go_wp2
        go_ret
        exact ⟨rfl, hBw⟩
  · go_enter Tryz.func5, Tryz.ntmps5
    go_wp2
    go_ret
    exact ⟨rfl, Below.refl _ _⟩

end Go.Proofs.YtafbdbefmlgioaaGreatDoor
