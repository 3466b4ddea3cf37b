/- What is drawn: events. -/
import Derived.Test.YtafbdbefmlgioaaGreatDoorCur
import Derived.Test.YtafbdbefmlgioaaGreatDoorNestP
import Derived.Test.YtafbdbefmlgioaaGreatDoorTevT
import Derived.Deep.RegionWith
import Derived.Deep.DeepCutAuto
import Derived.Test.YtafbdbefmlgioaaGreatDoorStK
import Derived.Test.YtafbdbefmlgioaaGreatDoorIntsW
import Derived.Test.YtafbdbefmlgioaaGreatDoorTstT
import Derived.Test.YtafbdbefmlgioaaGreatDoorStJ
import Derived.Test.YtafbdbefmlgioaaGreatDoorScr
import Derived.Deep.CutBlock
namespace Go.Proofs.YtafbdbefmlgioaaGreatDoor
open Go.RowKit
set_option linter.unusedVariables false
set_option linter.unusedSimpArgs false

/-- the cells of an event, all numbers of the machine's -/
def EL (L : List Value) : Prop := ∃ (k key ch too amt fee : Int) (yes : Bool), L = [.int .i64 k, .int .i64 key, .int .i64 ch, .int .i64 too, .int .i64 amt, .int .i64 fee, .bool yes] ∧ I64 k ∧ I64 key ∧ I64 ch ∧ I64 too ∧ I64 amt ∧ I64 fee
/-- while an event is drawn -/
structure DE (w : World) (a : Option Addr) (len cap g g2 b2 b4 : Nat) (hs : List Bool) (W : World) (L : List Value) : Prop where
  dr : Drew w a len cap g W
  hc : ∀ i b, hs[i]? = some b → W.cell? ⟨g2, i, none⟩ = some (.bool b)
  ev : Bx W b4 L
  rs : Bx W b2 [.int .i64 0, .int .i64 0, .int .i64 0, .int .i64 0, .int .i64 0, .int .i64 0, .bool false]
  ne : g2 ≠ g ∧ b2 ≠ g ∧ b4 ≠ g ∧ b2 ≠ b4 ∧ g2 ≠ b4 ∧ w.heap.size ≤ b4 ∧ w.heap.size ≤ b2
theorem Bx.drawn {w w' : World} {b g : Nat} {L : List Value} (h : Bx w b L) (hp : 0 < L.length) (hg : w.grownBy w' (some g)) (hne : b ≠ g) : Bx w' b L := by
  have hlt := h.lt
  have hk := hg.block b hlt (by intro e; injection e with e; exact hne e)
  exact ⟨fun j v hj => by rw [World.cell?_of_block (w := w) (a := ⟨b, 0 + j, none⟩) hk]; exact h.at_ j v hj, fun j hj => by
    have := h.th j hj
    rw [World.cell?_of_block (w := w) (a := ⟨b, 0 + j, none⟩) hk, World.frozen?_of_block (w := w) (a := ⟨b, 0 + j, none⟩) hk]
    exact this, h.ne⟩
theorem DE.lt2 {w W : World} {a : Option Addr} {len cap g g2 b2 b4 : Nat} {hs : List Bool} {L : List Value} (h : DE w a len cap g g2 b2 b4 hs W L) (hl : hs.length = 6) : g2 < W.heap.size := by
  have := h.hc 0 hs[0] (List.getElem?_eq_getElem (by omega))
  rcases Nat.lt_or_ge g2 W.heap.size with h1 | h1
  · exact h1
  · rw [World.cell?, Array.getElem?_eq_none h1] at this
    cases this
theorem DE.draw {w W W' : World} {a : Option Addr} {len cap g g2 b2 b4 : Nat} {hs : List Bool} {L : List Value} (h : DE w a len cap g g2 b2 b4 hs W L) (hl : hs.length = 6) (hL : 0 < L.length) (D : Drew W a len cap g W') : DE w a len cap g g2 b2 b4 hs W' L :=
  ⟨h.dr.trans D, fun i b hb => by rw [(Drew.rules D).1 g2 i (h.lt2 hl) h.ne.1]; exact h.hc i b hb, h.ev.drawn hL D.grown h.ne.2.2.1, h.rs.drawn (by exact Nat.zero_lt_succ _) D.grown h.ne.2.1, h.ne⟩
theorem DE.drew {w W : World} {a : Option Addr} {len cap g g2 b2 b4 : Nat} {hs : List Bool} {L : List Value} (h : DE w a len cap g g2 b2 b4 hs W L) : DE w a len cap g g2 b2 b4 hs W.drew L :=
  ⟨h.dr.drew, h.hc, h.ev.drew, h.rs.drew, h.ne⟩
theorem DE.put {w W : World} {a : Option Addr} {len cap g g2 b2 b4 : Nat} {hs : List Bool} {L : List Value} (h : DE w a len cap g g2 b2 b4 hs W L) (j : Nat) (v : Value) (hj : j < L.length) : DE w a len cap g g2 b2 b4 hs (W.setCell ⟨b4, j, none⟩ v) (putL L j [v]) :=
  ⟨h.dr.setCell h.ne.2.2.2.2.2.1 v, fun i b hb => by rw [World.cell?_setCell_other (h := by intro e; injection e with e _; exact h.ne.2.2.2.2.1 e.symm)]; exact h.hc i b hb, h.ev.set j [v] hj, h.rs.other b4 j [v] h.ne.2.2.2.1, h.ne⟩

set_option maxRecDepth 100000 in
set_option maxHeartbeats 6400000 in
theorem l04Draw_any (a : Option Addr) (len cap g : Nat) (w : World) (C0 : Cur w a len cap g) : Calls Tryz.prog 148 #[.pointer (some ⟨g, 0, none⟩)] w fun e w' =>
    (∃ (k key ch too amt fee : Int) (yes : Bool), e = .returned (.agg #[.int .i64 k, .int .i64 key, .int .i64 ch, .int .i64 too, .int .i64 amt, .int .i64 fee, .bool yes]) ∧ I64 k ∧ I64 key ∧ I64 ch ∧ I64 too ∧ I64 amt ∧ I64 fee) ∧ Drew w a len cap g w' := by
  have hg := C0.lt
  go_enter Tryz.func148, Tryz.ntmps148
  go_upto_region 1 with fail
  have R0 : Bx (w.alloc (.cells #[.int .i64 0, .int .i64 0, .int .i64 0, .int .i64 0, .int .i64 0, .int .i64 0, .bool false] 75)) w.heap.size [.int .i64 0, .int .i64 0, .int .i64 0, .int .i64 0, .int .i64 0, .int .i64 0, .bool false] := Bx.new _ _ _ [.int .i64 0, .int .i64 0, .int .i64 0, .int .i64 0, .int .i64 0, .int .i64 0, .bool false] rfl (by exact Nat.zero_lt_succ _) _ rfl
  have D0 : Drew w a len cap g (w.alloc (.cells #[.int .i64 0, .int .i64 0, .int .i64 0, .int .i64 0, .int .i64 0, .int .i64 0, .bool false] 75)) := (Drew.refl C0).alloc _
  generalize w.alloc (.cells #[.int .i64 0, .int .i64 0, .int .i64 0, .int .i64 0, .int .i64 0, .int .i64 0, .bool false] 75) = X0 at R0 D0 ⊢
  go_wp2_with fail
  refine (below_any _ _ _ _ 11 _ D0.cur).mono ?_
  rintro e w1 ⟨⟨x, rfl, hx0, hx1⟩, D1⟩
  have hx2 := hx1 (by omega)
  have R1 := R0.drawn (by exact Nat.zero_lt_succ _) D1.grown (by omega)
  have D2 := D0.trans D1
  clear R0 D0 D1 hx1
  have B4 : Bx (w1.alloc (.cells #[.int .i64 (1 + x), .int .i64 0, .int .i64 0, .int .i64 0, .int .i64 0, .int .i64 0, .bool false] 75)) w1.heap.size [.int .i64 (1 + x), .int .i64 0, .int .i64 0, .int .i64 0, .int .i64 0, .int .i64 0, .bool false] := Bx.new _ _ _ [.int .i64 (1 + x), .int .i64 0, .int .i64 0, .int .i64 0, .int .i64 0, .int .i64 0, .bool false] rfl (by exact Nat.zero_lt_succ _) _ rfl
  have D4 := D2.alloc (.cells #[.int .i64 (1 + x), .int .i64 0, .int .i64 0, .int .i64 0, .int .i64 0, .int .i64 0, .bool false] 75)
  have R4 := R1.alloc (.cells #[.int .i64 (1 + x), .int .i64 0, .int .i64 0, .int .i64 0, .int .i64 0, .int .i64 0, .bool false] 75)
  have n1 := R1.lt
  have n2 := D2.cur.lt
  clear R1 D2
  go_upto_region 3 with fail
  generalize w1.alloc (.cells #[.int .i64 (1 + x), .int .i64 0, .int .i64 0, .int .i64 0, .int .i64 0, .int .i64 0, .bool false] 75) = X4 at B4 D4 R4 ⊢
  have n4 := B4.lt
  go_wp2_with fail
  refine (l04Has_at _ _).mono ?_
  rintro e w2 ⟨⟨g2, rfl, hg2, F⟩, hb⟩
  have HE : ∃ L, EL L ∧ DE w a len cap g g2 w.heap.size w1.heap.size (hasF (1 + x)) w2 L := by
    refine ⟨_, ⟨1 + x, 0, 0, 0, 0, 0, false, rfl, (by unfold I64; omega), (by unfold I64; omega), (by unfold I64; omega), (by unfold I64; omega), (by unfold I64; omega), (by unfold I64; omega)⟩, D4.keep hb, fun i b hi => ?_, B4.keep hb, R4.keep hb, by omega⟩
    obtain ⟨b', off, e, hlt, hc⟩ := F.2.2.2 i b hi
    injection e with e
    injection e with e1 e2
    subst e1
    subst e2
    have := hc 0 _ rfl
    simpa using this
  clear F hb B4 D4 R4 hg2 n4
  obtain ⟨h0, q0⟩ : ∃ h, (hasF (1 + x))[0]? = some h := ⟨_, List.getElem?_eq_getElem (by rw [hasF_len]; decide)⟩
  obtain ⟨L, ⟨k, key, ch, too, amt, fee, yes, rfl, hk, hkey, hch, htoo, hamt, hfee⟩, HE⟩ := HE
  have ci := HE.hc 0 h0 q0
  go_upto_if 15 with fail
  go_cut [] (fun wq => ∃ L, EL L ∧ DE w a len cap g g2 w.heap.size w1.heap.size (hasF (1 + x)) wq L)
  case first =>
    cases h0 with
    | false =>
      go_wp2_with fail
      go_meet
      case rel => exact ⟨[.int .i64 (k), .int .i64 (key), .int .i64 (ch), .int .i64 (too), .int .i64 (amt), .int .i64 (fee), .bool (yes)], ⟨(k), (key), (ch), (too), (amt), (fee), (yes), rfl, (by first | assumption | (unfold I64; omega) | exact wrap_within _ _), (by first | assumption | (unfold I64; omega) | exact wrap_within _ _), (by first | assumption | (unfold I64; omega) | exact wrap_within _ _), (by first | assumption | (unfold I64; omega) | exact wrap_within _ _), (by first | assumption | (unfold I64; omega) | exact wrap_within _ _), (by first | assumption | (unfold I64; omega) | exact wrap_within _ _)⟩, HE⟩
    | true =>
      go_wp2_with fail
      refine (below_any _ _ _ _ 6 _ HE.dr.cur).mono ?_
      rintro e w3 ⟨⟨y, rfl, hy0, hy1⟩, D3⟩
      have hy2 := hy1 (by omega)
      have HE3 := HE.draw (hasF_len _) (by exact Nat.zero_lt_succ _) D3
      have cj := HE3.ev.cell 1 _ rfl
      have fj := HE3.ev.fz 1 (by exact Nat.le_of_ble_eq_true rfl)
      clear D3 hy1
      go_wp2_with fail
      go_meet
      case rel => exact ⟨[.int .i64 (k), .int .i64 (1 + y), .int .i64 (ch), .int .i64 (too), .int .i64 (amt), .int .i64 (fee), .bool (yes)], ⟨(k), (1 + y), (ch), (too), (amt), (fee), (yes), rfl, (by first | assumption | (unfold I64; omega) | exact wrap_within _ _), (by first | assumption | (unfold I64; omega) | exact wrap_within _ _), (by first | assumption | (unfold I64; omega) | exact wrap_within _ _), (by first | assumption | (unfold I64; omega) | exact wrap_within _ _), (by first | assumption | (unfold I64; omega) | exact wrap_within _ _), (by first | assumption | (unfold I64; omega) | exact wrap_within _ _)⟩, HE3.put 1 (.int .i64 (1 + y)) (by exact Nat.le_of_ble_eq_true rfl)⟩
  case rest =>
    have HE := hcut
    clear hcut
    obtain ⟨h1, q1⟩ : ∃ h, (hasF (1 + x))[1]? = some h := ⟨_, List.getElem?_eq_getElem (by rw [hasF_len]; decide)⟩
    obtain ⟨L, ⟨k, key, ch, too, amt, fee, yes, rfl, hk, hkey, hch, htoo, hamt, hfee⟩, HE⟩ := HE
    have ci := HE.hc 1 h1 q1
    go_upto_if 22 with fail
    go_cut [] (fun wq => ∃ L, EL L ∧ DE w a len cap g g2 w.heap.size w1.heap.size (hasF (1 + x)) wq L)
    case first =>
      cases h1 with
      | false =>
        go_wp2_with fail
        go_meet
        case rel => exact ⟨[.int .i64 (k), .int .i64 (key), .int .i64 (ch), .int .i64 (too), .int .i64 (amt), .int .i64 (fee), .bool (yes)], ⟨(k), (key), (ch), (too), (amt), (fee), (yes), rfl, (by first | assumption | (unfold I64; omega) | exact wrap_within _ _), (by first | assumption | (unfold I64; omega) | exact wrap_within _ _), (by first | assumption | (unfold I64; omega) | exact wrap_within _ _), (by first | assumption | (unfold I64; omega) | exact wrap_within _ _), (by first | assumption | (unfold I64; omega) | exact wrap_within _ _), (by first | assumption | (unfold I64; omega) | exact wrap_within _ _)⟩, HE⟩
      | true =>
        go_wp2_with fail
        refine (below_any _ _ _ _ 4 _ HE.dr.cur).mono ?_
        rintro e w3 ⟨⟨y, rfl, hy0, hy1⟩, D3⟩
        have hy2 := hy1 (by omega)
        have HE3 := HE.draw (hasF_len _) (by exact Nat.zero_lt_succ _) D3
        have cj := HE3.ev.cell 2 _ rfl
        have fj := HE3.ev.fz 2 (by exact Nat.le_of_ble_eq_true rfl)
        clear D3 hy1
        go_wp2_with fail
        go_meet
        case rel => exact ⟨[.int .i64 (k), .int .i64 (key), .int .i64 (1 + y), .int .i64 (too), .int .i64 (amt), .int .i64 (fee), .bool (yes)], ⟨(k), (key), (1 + y), (too), (amt), (fee), (yes), rfl, (by first | assumption | (unfold I64; omega) | exact wrap_within _ _), (by first | assumption | (unfold I64; omega) | exact wrap_within _ _), (by first | assumption | (unfold I64; omega) | exact wrap_within _ _), (by first | assumption | (unfold I64; omega) | exact wrap_within _ _), (by first | assumption | (unfold I64; omega) | exact wrap_within _ _), (by first | assumption | (unfold I64; omega) | exact wrap_within _ _)⟩, HE3.put 2 (.int .i64 (1 + y)) (by exact Nat.le_of_ble_eq_true rfl)⟩
    case rest =>
      have HE := hcut
      clear hcut
      obtain ⟨h2, q2⟩ : ∃ h, (hasF (1 + x))[2]? = some h := ⟨_, List.getElem?_eq_getElem (by rw [hasF_len]; decide)⟩
      obtain ⟨L, ⟨k, key, ch, too, amt, fee, yes, rfl, hk, hkey, hch, htoo, hamt, hfee⟩, HE⟩ := HE
      have ci := HE.hc 2 h2 q2
      go_upto_if 29 with fail
      go_cut [] (fun wq => ∃ L, EL L ∧ DE w a len cap g g2 w.heap.size w1.heap.size (hasF (1 + x)) wq L)
      case first =>
        cases h2 with
        | false =>
          go_wp2_with fail
          go_meet
          case rel => exact ⟨[.int .i64 (k), .int .i64 (key), .int .i64 (ch), .int .i64 (too), .int .i64 (amt), .int .i64 (fee), .bool (yes)], ⟨(k), (key), (ch), (too), (amt), (fee), (yes), rfl, (by first | assumption | (unfold I64; omega) | exact wrap_within _ _), (by first | assumption | (unfold I64; omega) | exact wrap_within _ _), (by first | assumption | (unfold I64; omega) | exact wrap_within _ _), (by first | assumption | (unfold I64; omega) | exact wrap_within _ _), (by first | assumption | (unfold I64; omega) | exact wrap_within _ _), (by first | assumption | (unfold I64; omega) | exact wrap_within _ _)⟩, HE⟩
        | true =>
          have c2 := HE.ev.cell 2 _ rfl
          go_upto_region 9 with fail
          go_region_with (go_at_call 44; refine (below_any _ _ _ _ 3 _ (HE.drew.dr.cur)).mono ?_; rintro e w3 ⟨⟨y, rfl, hy0, hy1⟩, D3⟩; have hy2 := hy1 (by omega); have HE3 := HE.drew.draw (hasF_len _) (by exact Nat.zero_lt_succ _) D3; have c2 := HE3.ev.cell 2 _ rfl; have cj := HE3.ev.cell 3 _ rfl; have fj := HE3.ev.fz 3 (by exact Nat.le_of_ble_eq_true rfl); clear D3 hy1)
          all_goals
            go_wp2_with fail
            go_meet
            case rel => exact ⟨[.int .i64 (k), .int .i64 (key), .int .i64 (ch), .int .i64 (IntKind.i64.wrap (1 + (IntKind.i64.wrap (ch + y)).tmod 4)), .int .i64 (amt), .int .i64 (fee), .bool (yes)], ⟨(k), (key), (ch), (IntKind.i64.wrap (1 + (IntKind.i64.wrap (ch + y)).tmod 4)), (amt), (fee), (yes), rfl, (by first | assumption | (unfold I64; omega) | exact wrap_within _ _), (by first | assumption | (unfold I64; omega) | exact wrap_within _ _), (by first | assumption | (unfold I64; omega) | exact wrap_within _ _), (by first | assumption | (unfold I64; omega) | exact wrap_within _ _), (by first | assumption | (unfold I64; omega) | exact wrap_within _ _), (by first | assumption | (unfold I64; omega) | exact wrap_within _ _)⟩, HE3.put 3 (.int .i64 (IntKind.i64.wrap (1 + (IntKind.i64.wrap (ch + y)).tmod 4))) (by exact Nat.le_of_ble_eq_true rfl)⟩
      case rest =>
        have HE := hcut
        clear hcut
        obtain ⟨h3, q3⟩ : ∃ h, (hasF (1 + x))[3]? = some h := ⟨_, List.getElem?_eq_getElem (by rw [hasF_len]; decide)⟩
        obtain ⟨L, ⟨k, key, ch, too, amt, fee, yes, rfl, hk, hkey, hch, htoo, hamt, hfee⟩, HE⟩ := HE
        have ci := HE.hc 3 h3 q3
        go_upto_if 40 with fail
        go_cut [] (fun wq => ∃ L, EL L ∧ DE w a len cap g g2 w.heap.size w1.heap.size (hasF (1 + x)) wq L)
        case first =>
          cases h3 with
          | false =>
            go_wp2_with fail
            go_meet
            case rel => exact ⟨[.int .i64 (k), .int .i64 (key), .int .i64 (ch), .int .i64 (too), .int .i64 (amt), .int .i64 (fee), .bool (yes)], ⟨(k), (key), (ch), (too), (amt), (fee), (yes), rfl, (by first | assumption | (unfold I64; omega) | exact wrap_within _ _), (by first | assumption | (unfold I64; omega) | exact wrap_within _ _), (by first | assumption | (unfold I64; omega) | exact wrap_within _ _), (by first | assumption | (unfold I64; omega) | exact wrap_within _ _), (by first | assumption | (unfold I64; omega) | exact wrap_within _ _), (by first | assumption | (unfold I64; omega) | exact wrap_within _ _)⟩, HE⟩
          | true =>
            go_wp2_with fail
            refine (below_any _ _ _ _ 400 _ HE.dr.cur).mono ?_
            rintro e w3 ⟨⟨y, rfl, hy0, hy1⟩, D3⟩
            have hy2 := hy1 (by omega)
            have HE3 := HE.draw (hasF_len _) (by exact Nat.zero_lt_succ _) D3
            have cj := HE3.ev.cell 4 _ rfl
            have fj := HE3.ev.fz 4 (by exact Nat.le_of_ble_eq_true rfl)
            clear D3 hy1
            go_wp2_with fail
            go_meet
            case rel => exact ⟨[.int .i64 (k), .int .i64 (key), .int .i64 (ch), .int .i64 (too), .int .i64 (1 + y * 25), .int .i64 (fee), .bool (yes)], ⟨(k), (key), (ch), (too), (1 + y * 25), (fee), (yes), rfl, (by first | assumption | (unfold I64; omega) | exact wrap_within _ _), (by first | assumption | (unfold I64; omega) | exact wrap_within _ _), (by first | assumption | (unfold I64; omega) | exact wrap_within _ _), (by first | assumption | (unfold I64; omega) | exact wrap_within _ _), (by first | assumption | (unfold I64; omega) | exact wrap_within _ _), (by first | assumption | (unfold I64; omega) | exact wrap_within _ _)⟩, HE3.put 4 (.int .i64 (1 + y * 25)) (by exact Nat.le_of_ble_eq_true rfl)⟩
        case rest =>
          have HE := hcut
          clear hcut
          obtain ⟨h4, q4⟩ : ∃ h, (hasF (1 + x))[4]? = some h := ⟨_, List.getElem?_eq_getElem (by rw [hasF_len]; decide)⟩
          obtain ⟨L, ⟨k, key, ch, too, amt, fee, yes, rfl, hk, hkey, hch, htoo, hamt, hfee⟩, HE⟩ := HE
          have ci := HE.hc 4 h4 q4
          go_upto_if 48 with fail
          go_cut [] (fun wq => ∃ L, EL L ∧ DE w a len cap g g2 w.heap.size w1.heap.size (hasF (1 + x)) wq L)
          case first =>
            cases h4 with
            | false =>
              go_wp2_with fail
              go_meet
              case rel => exact ⟨[.int .i64 (k), .int .i64 (key), .int .i64 (ch), .int .i64 (too), .int .i64 (amt), .int .i64 (fee), .bool (yes)], ⟨(k), (key), (ch), (too), (amt), (fee), (yes), rfl, (by first | assumption | (unfold I64; omega) | exact wrap_within _ _), (by first | assumption | (unfold I64; omega) | exact wrap_within _ _), (by first | assumption | (unfold I64; omega) | exact wrap_within _ _), (by first | assumption | (unfold I64; omega) | exact wrap_within _ _), (by first | assumption | (unfold I64; omega) | exact wrap_within _ _), (by first | assumption | (unfold I64; omega) | exact wrap_within _ _)⟩, HE⟩
            | true =>
              go_wp2_with fail
              refine (below_any _ _ _ _ 300 _ HE.dr.cur).mono ?_
              rintro e w3 ⟨⟨y, rfl, hy0, hy1⟩, D3⟩
              have hy2 := hy1 (by omega)
              have HE3 := HE.draw (hasF_len _) (by exact Nat.zero_lt_succ _) D3
              have cj := HE3.ev.cell 5 _ rfl
              have fj := HE3.ev.fz 5 (by exact Nat.le_of_ble_eq_true rfl)
              clear D3 hy1
              go_wp2_with fail
              go_meet
              case rel => exact ⟨[.int .i64 (k), .int .i64 (key), .int .i64 (ch), .int .i64 (too), .int .i64 (amt), .int .i64 (y * 7), .bool (yes)], ⟨(k), (key), (ch), (too), (amt), (y * 7), (yes), rfl, (by first | assumption | (unfold I64; omega) | exact wrap_within _ _), (by first | assumption | (unfold I64; omega) | exact wrap_within _ _), (by first | assumption | (unfold I64; omega) | exact wrap_within _ _), (by first | assumption | (unfold I64; omega) | exact wrap_within _ _), (by first | assumption | (unfold I64; omega) | exact wrap_within _ _), (by first | assumption | (unfold I64; omega) | exact wrap_within _ _)⟩, HE3.put 5 (.int .i64 (y * 7)) (by exact Nat.le_of_ble_eq_true rfl)⟩
          case rest =>
            have HE := hcut
            clear hcut
            obtain ⟨h5, q5⟩ : ∃ h, (hasF (1 + x))[5]? = some h := ⟨_, List.getElem?_eq_getElem (by rw [hasF_len]; decide)⟩
            obtain ⟨L, ⟨k, key, ch, too, amt, fee, yes, rfl, hk, hkey, hch, htoo, hamt, hfee⟩, HE⟩ := HE
            have ci := HE.hc 5 h5 q5
            have cj := HE.ev.cell 6 _ rfl
            have fj := HE.ev.fz 6 (by exact Nat.le_of_ble_eq_true rfl)
            go_upto_region 14 with fail
            go_cut [] (fun wq => ∃ L, EL L ∧ DE w a len cap g g2 w.heap.size w1.heap.size (hasF (1 + x)) wq L)
            case first =>
              cases h5 with
              | false =>
                go_wp2_with fail
                go_meet
                case rel => exact ⟨[.int .i64 (k), .int .i64 (key), .int .i64 (ch), .int .i64 (too), .int .i64 (amt), .int .i64 (fee), .bool (false)], ⟨(k), (key), (ch), (too), (amt), (fee), (false), rfl, (by first | assumption | (unfold I64; omega) | exact wrap_within _ _), (by first | assumption | (unfold I64; omega) | exact wrap_within _ _), (by first | assumption | (unfold I64; omega) | exact wrap_within _ _), (by first | assumption | (unfold I64; omega) | exact wrap_within _ _), (by first | assumption | (unfold I64; omega) | exact wrap_within _ _), (by first | assumption | (unfold I64; omega) | exact wrap_within _ _)⟩, HE.put 6 (.bool false) (by exact Nat.le_of_ble_eq_true rfl)⟩
              | true =>
                go_wp2_with fail
                refine (below_any _ _ _ _ 2 _ HE.dr.cur).mono ?_
                rintro e w3 ⟨⟨y, rfl, hy0, hy1⟩, D3⟩
                have HE3 := HE.draw (hasF_len _) (by exact Nat.zero_lt_succ _) D3
                have cj := HE3.ev.cell 6 _ rfl
                have fj := HE3.ev.fz 6 (by exact Nat.le_of_ble_eq_true rfl)
                clear D3 hy1
                go_wp2_with fail
                go_meet
                case rel => exact ⟨[.int .i64 (k), .int .i64 (key), .int .i64 (ch), .int .i64 (too), .int .i64 (amt), .int .i64 (fee), .bool (y == 0)], ⟨(k), (key), (ch), (too), (amt), (fee), (y == 0), rfl, (by first | assumption | (unfold I64; omega) | exact wrap_within _ _), (by first | assumption | (unfold I64; omega) | exact wrap_within _ _), (by first | assumption | (unfold I64; omega) | exact wrap_within _ _), (by first | assumption | (unfold I64; omega) | exact wrap_within _ _), (by first | assumption | (unfold I64; omega) | exact wrap_within _ _), (by first | assumption | (unfold I64; omega) | exact wrap_within _ _)⟩, HE3.put 6 (.bool (y == 0)) (by exact Nat.le_of_ble_eq_true rfl)⟩
            case rest =>
              have HE := hcut
              clear hcut
              obtain ⟨L, ⟨k, key, ch, too, amt, fee, yes, rfl, hk, hkey, hch, htoo, hamt, hfee⟩, HE⟩ := HE
              have ci := HE.hc 3 h3 q3
              go_upto_region 15 with fail
              go_cut [69] (fun v wq => (∃ b, v = .bool b) ∧ ∃ L, EL L ∧ DE w a len cap g g2 w.heap.size w1.heap.size (hasF (1 + x)) wq L)
              case first =>
                go_wp2_with fail
                refine (below_any _ _ _ _ 14 _ HE.dr.cur).mono ?_
                rintro e w3 ⟨⟨y, rfl, hy0, hy1⟩, D3⟩
                have HE3 := HE.draw (hasF_len _) (by exact Nat.zero_lt_succ _) D3
                have ci := HE3.hc 3 h3 q3
                clear D3 hy1
                by_cases hy : y = 0
                · have e1 : (y == 0) = true := by simp [hy]
                  clear hy hy0
                  go_wp2_with fail
                  go_meet
                  case rel => exact ⟨⟨_, rfl⟩, [.int .i64 (k), .int .i64 (key), .int .i64 (ch), .int .i64 (too), .int .i64 (amt), .int .i64 (fee), .bool (yes)], ⟨(k), (key), (ch), (too), (amt), (fee), (yes), rfl, (by first | assumption | (unfold I64; omega) | exact wrap_within _ _), (by first | assumption | (unfold I64; omega) | exact wrap_within _ _), (by first | assumption | (unfold I64; omega) | exact wrap_within _ _), (by first | assumption | (unfold I64; omega) | exact wrap_within _ _), (by first | assumption | (unfold I64; omega) | exact wrap_within _ _), (by first | assumption | (unfold I64; omega) | exact wrap_within _ _)⟩, HE3⟩
                · have e1 : (y == 0) = false := by simp [hy]
                  clear hy hy0
                  go_wp2_with fail
                  go_meet
                  case rel => exact ⟨⟨_, rfl⟩, [.int .i64 (k), .int .i64 (key), .int .i64 (ch), .int .i64 (too), .int .i64 (amt), .int .i64 (fee), .bool (yes)], ⟨(k), (key), (ch), (too), (amt), (fee), (yes), rfl, (by first | assumption | (unfold I64; omega) | exact wrap_within _ _), (by first | assumption | (unfold I64; omega) | exact wrap_within _ _), (by first | assumption | (unfold I64; omega) | exact wrap_within _ _), (by first | assumption | (unfold I64; omega) | exact wrap_within _ _), (by first | assumption | (unfold I64; omega) | exact wrap_within _ _), (by first | assumption | (unfold I64; omega) | exact wrap_within _ _)⟩, HE3⟩
              case rest =>
                obtain ⟨⟨b, rfl⟩, HE⟩ := hcut
                obtain ⟨L, ⟨k, key, ch, too, amt, fee, yes, rfl, hk, hkey, hch, htoo, hamt, hfee⟩, HE⟩ := HE
                go_upto_if 69 with fail
                go_cut [] (fun wq => ∃ L, EL L ∧ DE w a len cap g g2 w.heap.size w1.heap.size (hasF (1 + x)) wq L)
                case first =>
                  cases b with
                  | false =>
                    go_wp2_with fail
                    go_meet
                    case rel => exact ⟨[.int .i64 (k), .int .i64 (key), .int .i64 (ch), .int .i64 (too), .int .i64 (amt), .int .i64 (fee), .bool (yes)], ⟨(k), (key), (ch), (too), (amt), (fee), (yes), rfl, (by first | assumption | (unfold I64; omega) | exact wrap_within _ _), (by first | assumption | (unfold I64; omega) | exact wrap_within _ _), (by first | assumption | (unfold I64; omega) | exact wrap_within _ _), (by first | assumption | (unfold I64; omega) | exact wrap_within _ _), (by first | assumption | (unfold I64; omega) | exact wrap_within _ _), (by first | assumption | (unfold I64; omega) | exact wrap_within _ _)⟩, HE⟩
                  | true =>
                    go_wp2_with fail
                    refine (below_any _ _ _ _ 2 _ HE.dr.cur).mono ?_
                    rintro e w3 ⟨⟨y, rfl, hy0, hy1⟩, D3⟩
                    have hy2 := hy1 (by omega)
                    have HE3 := HE.draw (hasF_len _) (by exact Nat.zero_lt_succ _) D3
                    have cj := HE3.ev.cell 4 _ rfl
                    have fj := HE3.ev.fz 4 (by exact Nat.le_of_ble_eq_true rfl)
                    clear D3 hy1
                    go_wp2_with fail
                    go_meet
                    case rel => exact ⟨[.int .i64 (k), .int .i64 (key), .int .i64 (ch), .int .i64 (too), .int .i64 (1125899906842624 - y), .int .i64 (fee), .bool (yes)], ⟨(k), (key), (ch), (too), (1125899906842624 - y), (fee), (yes), rfl, (by first | assumption | (unfold I64; omega) | exact wrap_within _ _), (by first | assumption | (unfold I64; omega) | exact wrap_within _ _), (by first | assumption | (unfold I64; omega) | exact wrap_within _ _), (by first | assumption | (unfold I64; omega) | exact wrap_within _ _), (by first | assumption | (unfold I64; omega) | exact wrap_within _ _), (by first | assumption | (unfold I64; omega) | exact wrap_within _ _)⟩, HE3.put 4 (.int .i64 (1125899906842624 - y)) (by exact Nat.le_of_ble_eq_true rfl)⟩
                case rest =>
                  have HE := hcut
                  clear hcut
                  obtain ⟨L, ⟨k, key, ch, too, amt, fee, yes, rfl, hk, hkey, hch, htoo, hamt, hfee⟩, HE⟩ := HE
                  have c0 := HE.ev.cell 0 _ rfl
                  have r0 := HE.rs.cell 0 _ rfl
                  have f0 := HE.rs.fz 0 (by exact Nat.le_of_ble_eq_true rfl)
                  have c1 := HE.ev.cell 1 _ rfl
                  have r1 := HE.rs.cell 1 _ rfl
                  have f1 := HE.rs.fz 1 (by exact Nat.le_of_ble_eq_true rfl)
                  have c2 := HE.ev.cell 2 _ rfl
                  have r2 := HE.rs.cell 2 _ rfl
                  have f2 := HE.rs.fz 2 (by exact Nat.le_of_ble_eq_true rfl)
                  have c3 := HE.ev.cell 3 _ rfl
                  have r3 := HE.rs.cell 3 _ rfl
                  have f3 := HE.rs.fz 3 (by exact Nat.le_of_ble_eq_true rfl)
                  have c4 := HE.ev.cell 4 _ rfl
                  have r4 := HE.rs.cell 4 _ rfl
                  have f4 := HE.rs.fz 4 (by exact Nat.le_of_ble_eq_true rfl)
                  have c5 := HE.ev.cell 5 _ rfl
                  have r5 := HE.rs.cell 5 _ rfl
                  have f5 := HE.rs.fz 5 (by exact Nat.le_of_ble_eq_true rfl)
                  have c6 := HE.ev.cell 6 _ rfl
                  have r6 := HE.rs.cell 6 _ rfl
                  have f6 := HE.rs.fz 6 (by exact Nat.le_of_ble_eq_true rfl)
                  go_wp2_with fail
                  refine bodyPost_ret (by simp only [results, Tryz.results148]; go_simp; rfl) rfl ?_
                  exact ⟨⟨_, _, _, _, _, _, _, rfl, hk, hkey, hch, htoo, hamt, hfee⟩, ((((((HE.dr.setCell (Nat.le_refl _) _).setCell (Nat.le_refl _) _).setCell (Nat.le_refl _) _).setCell (Nat.le_refl _) _).setCell (Nat.le_refl _) _).setCell (Nat.le_refl _) _).setCell (Nat.le_refl _) _⟩

/-- while a struct is drawn: its box b4, the box b2 of the result -/
structure DX (w : World) (a : Option Addr) (len cap g b2 b4 : Nat) (R L : List Value) (W : World) : Prop where
  dr : Drew w a len cap g W
  ev : Bx W b4 L
  rs : Bx W b2 R
  ne : b2 ≠ g ∧ b4 ≠ g ∧ b2 ≠ b4 ∧ w.heap.size ≤ b4 ∧ w.heap.size ≤ b2
section
variable {w W W' : World} {a : Option Addr} {len cap g b2 b4 : Nat} {R L : List Value}
theorem DX.draw (h : DX w a len cap g b2 b4 R L W) (D : Drew W a len cap g W') : DX w a len cap g b2 b4 R L W' :=
  ⟨h.dr.trans D, h.ev.drawn h.ev.ne D.grown h.ne.2.1, h.rs.drawn h.rs.ne D.grown h.ne.1, h.ne⟩
theorem DX.drew (h : DX w a len cap g b2 b4 R L W) : DX w a len cap g b2 b4 R L W.drew := ⟨h.dr.drew, h.ev.drew, h.rs.drew, h.ne⟩
theorem DX.keep (h : DX w a len cap g b2 b4 R L W) (hb : Below W.heap.size W W') : DX w a len cap g b2 b4 R L W' := ⟨h.dr.keep hb, h.ev.keep hb, h.rs.keep hb, h.ne⟩
theorem DX.put (h : DX w a len cap g b2 b4 R L W) (j : Nat) (v : Value) (hj : j < L.length) : DX w a len cap g b2 b4 R (putL L j [v]) (W.setCell ⟨b4, j, none⟩ v) :=
  ⟨h.dr.setCell h.ne.2.2.2.1 v, h.ev.set j [v] hj, h.rs.other b4 j [v] h.ne.2.2.1, h.ne⟩
theorem DX.done (h : DX w a len cap g b2 b4 R L W) (vs : List Value) : Drew w a len cap g (W.setCells b2 0 vs) := by
  have key : ∀ (vs : List Value) (o : Nat) (X : World), Drew w a len cap g X → Drew w a len cap g (X.setCells b2 o vs) := by
    intro vs
    induction vs with
    | nil => intro o X hX; exact hX
    | cons v vs ih => intro o X hX; exact ih (o + 1) _ (hX.setCell h.ne.2.2.2.2 v)
  exact key vs 0 W h.dr
theorem DX.start (D : Drew w a len cap g W) (hR : Bx W b2 R) (C : Array Value) (t : TypeId) (L : List Value) (hL : C.toList = L) (hn : 0 < L.length) (h1 : b2 ≠ g) (h2 : w.heap.size ≤ b2) : DX w a len cap g b2 W.heap.size R L (W.alloc (.cells C t)) :=
  ⟨D.alloc _, Bx.new W C t L hL hn _ rfl, hR.alloc _, h1, by have := D.cur.lt; omega, by have := hR.lt; omega, D.size, h2⟩
end

set_option maxRecDepth 100000 in
set_option maxHeartbeats 6400000 in
theorem l04Any_any (a : Option Addr) (len cap g : Nat) (w : World) (C0 : Cur w a len cap g) : Calls Tryz.prog 121 #[.pointer (some ⟨g, 0, none⟩)] w fun e w' =>
    (∃ (k key ch too amt fee : Int) (yes : Bool), e = .returned (.agg #[.int .i64 k, .int .i64 key, .int .i64 ch, .int .i64 too, .int .i64 amt, .int .i64 fee, .bool yes]) ∧ I64 k ∧ I64 key ∧ I64 ch ∧ I64 too ∧ I64 amt ∧ I64 fee) ∧ Drew w a len cap g w' := by
  have hg := C0.lt
  go_enter Tryz.func121, Tryz.ntmps121
  go_upto_region 1 with fail
  have R0 : Bx (w.alloc (.cells #[.int .i64 0, .int .i64 0, .int .i64 0, .int .i64 0, .int .i64 0, .int .i64 0, .bool false] 75)) w.heap.size [.int .i64 0, .int .i64 0, .int .i64 0, .int .i64 0, .int .i64 0, .int .i64 0, .bool false] := Bx.new _ _ _ [.int .i64 0, .int .i64 0, .int .i64 0, .int .i64 0, .int .i64 0, .int .i64 0, .bool false] rfl (by exact Nat.zero_lt_succ _) _ rfl
  have D0 : Drew w a len cap g (w.alloc (.cells #[.int .i64 0, .int .i64 0, .int .i64 0, .int .i64 0, .int .i64 0, .int .i64 0, .bool false] 75)) := (Drew.refl C0).alloc _
  generalize w.alloc (.cells #[.int .i64 0, .int .i64 0, .int .i64 0, .int .i64 0, .int .i64 0, .int .i64 0, .bool false] 75) = X0 at R0 D0 ⊢
  go_wp2_with fail
  refine (l04Draw_any _ _ _ _ _ D0.cur).mono ?_
  rintro e w1 ⟨⟨k, key, ch, too, amt, fee, yes, rfl, hk, hkey, hch, htoo, hamt, hfee⟩, D1⟩
  have HE := DX.start (D0.trans D1) (R0.drawn R0.ne D1.grown (by omega)) #[.int .i64 k, .int .i64 key, .int .i64 ch, .int .i64 too, .int .i64 amt, .int .i64 fee, .bool yes] 75 [.int .i64 k, .int .i64 key, .int .i64 ch, .int .i64 too, .int .i64 amt, .int .i64 fee, .bool yes] rfl (by exact Nat.zero_lt_succ _) (by omega) (Nat.le_refl _)
  clear R0 D0 D1
  go_upto_region 2 with fail
  generalize w1.alloc (.cells #[.int .i64 k, .int .i64 key, .int .i64 ch, .int .i64 too, .int .i64 amt, .int .i64 fee, .bool yes] 75) = X4 at HE ⊢
  go_wp2_with fail
  refine (below_any _ _ _ _ 16 _ HE.dr.cur).mono ?_
  rintro e w3 ⟨⟨x, rfl, hx0, hx1⟩, D3⟩
  have hx2 := hx1 (by omega)
  have HE3 := HE.draw D3
  clear HE D3 hx1
  rcases (show x = 0 ∨ x = 1 ∨ x = 2 ∨ x = 4 ∨ x = 5 ∨ x = 3 ∨ x = 6 ∨ 6 < x by omega) with rfl | rfl | rfl | rfl | rfl | rfl | rfl | hx3
  · go_wp2_with fail
    refine (raw_any _ _ _ _ _ HE3.dr.cur).mono ?_
    rintro e w5 ⟨⟨y, rfl, hy0, hy1⟩, D5⟩
    have HE5 := HE3.draw D5
    have hy : I64 y := ⟨hy0, hy1⟩
    have cj := HE5.ev.cell 0 _ rfl
    have fj := HE5.ev.fz 0 (by exact Nat.le_of_ble_eq_true rfl)
    clear HE3 D5
    have HF : DX w a len cap g w.heap.size w1.heap.size [.int .i64 0, .int .i64 0, .int .i64 0, .int .i64 0, .int .i64 0, .int .i64 0, .bool false] [.int .i64 (y), .int .i64 (key), .int .i64 (ch), .int .i64 (too), .int .i64 (amt), .int .i64 (fee), .bool (yes)] (w5.setCell ⟨w1.heap.size, 0, none⟩ (.int .i64 y)) := HE5.put 0 (.int .i64 y) (by exact Nat.le_of_ble_eq_true rfl)
    go_upto_region 17 with fail
    generalize w5.setCell ⟨w1.heap.size, 0, none⟩ (.int .i64 y) = XF at HF ⊢
    have c0 := HF.ev.cell 0 _ rfl
    have r0 := HF.rs.cell 0 _ rfl
    have f0 := HF.rs.fz 0 (by exact Nat.le_of_ble_eq_true rfl)
    have c1 := HF.ev.cell 1 _ rfl
    have r1 := HF.rs.cell 1 _ rfl
    have f1 := HF.rs.fz 1 (by exact Nat.le_of_ble_eq_true rfl)
    have c2 := HF.ev.cell 2 _ rfl
    have r2 := HF.rs.cell 2 _ rfl
    have f2 := HF.rs.fz 2 (by exact Nat.le_of_ble_eq_true rfl)
    have c3 := HF.ev.cell 3 _ rfl
    have r3 := HF.rs.cell 3 _ rfl
    have f3 := HF.rs.fz 3 (by exact Nat.le_of_ble_eq_true rfl)
    have c4 := HF.ev.cell 4 _ rfl
    have r4 := HF.rs.cell 4 _ rfl
    have f4 := HF.rs.fz 4 (by exact Nat.le_of_ble_eq_true rfl)
    have c5 := HF.ev.cell 5 _ rfl
    have r5 := HF.rs.cell 5 _ rfl
    have f5 := HF.rs.fz 5 (by exact Nat.le_of_ble_eq_true rfl)
    have c6 := HF.ev.cell 6 _ rfl
    have r6 := HF.rs.cell 6 _ rfl
    have f6 := HF.rs.fz 6 (by exact Nat.le_of_ble_eq_true rfl)
    go_wp2_with fail
    refine bodyPost_ret (by simp only [results, Tryz.results121]; go_simp; rfl) rfl ?_
    exact ⟨⟨_, _, _, _, _, _, _, rfl, (by first | assumption | (unfold I64; omega) | exact wrap_within _ _ | exact wrap64_bd _), (by first | assumption | (unfold I64; omega) | exact wrap_within _ _ | exact wrap64_bd _), (by first | assumption | (unfold I64; omega) | exact wrap_within _ _ | exact wrap64_bd _), (by first | assumption | (unfold I64; omega) | exact wrap_within _ _ | exact wrap64_bd _), (by first | assumption | (unfold I64; omega) | exact wrap_within _ _ | exact wrap64_bd _), (by first | assumption | (unfold I64; omega) | exact wrap_within _ _ | exact wrap64_bd _)⟩, HF.done [.int .i64 (y), .int .i64 (key), .int .i64 (ch), .int .i64 (too), .int .i64 (amt), .int .i64 (fee), .bool (yes)]⟩
  · go_wp2_with fail
    refine (raw_any _ _ _ _ _ HE3.dr.cur).mono ?_
    rintro e w5 ⟨⟨y, rfl, hy0, hy1⟩, D5⟩
    have HE5 := HE3.draw D5
    have hy : I64 y := ⟨hy0, hy1⟩
    have cj := HE5.ev.cell 1 _ rfl
    have fj := HE5.ev.fz 1 (by exact Nat.le_of_ble_eq_true rfl)
    clear HE3 D5
    have HF : DX w a len cap g w.heap.size w1.heap.size [.int .i64 0, .int .i64 0, .int .i64 0, .int .i64 0, .int .i64 0, .int .i64 0, .bool false] [.int .i64 (k), .int .i64 (y), .int .i64 (ch), .int .i64 (too), .int .i64 (amt), .int .i64 (fee), .bool (yes)] (w5.setCell ⟨w1.heap.size, 1, none⟩ (.int .i64 y)) := HE5.put 1 (.int .i64 y) (by exact Nat.le_of_ble_eq_true rfl)
    go_upto_region 17 with fail
    generalize w5.setCell ⟨w1.heap.size, 1, none⟩ (.int .i64 y) = XF at HF ⊢
    have c0 := HF.ev.cell 0 _ rfl
    have r0 := HF.rs.cell 0 _ rfl
    have f0 := HF.rs.fz 0 (by exact Nat.le_of_ble_eq_true rfl)
    have c1 := HF.ev.cell 1 _ rfl
    have r1 := HF.rs.cell 1 _ rfl
    have f1 := HF.rs.fz 1 (by exact Nat.le_of_ble_eq_true rfl)
    have c2 := HF.ev.cell 2 _ rfl
    have r2 := HF.rs.cell 2 _ rfl
    have f2 := HF.rs.fz 2 (by exact Nat.le_of_ble_eq_true rfl)
    have c3 := HF.ev.cell 3 _ rfl
    have r3 := HF.rs.cell 3 _ rfl
    have f3 := HF.rs.fz 3 (by exact Nat.le_of_ble_eq_true rfl)
    have c4 := HF.ev.cell 4 _ rfl
    have r4 := HF.rs.cell 4 _ rfl
    have f4 := HF.rs.fz 4 (by exact Nat.le_of_ble_eq_true rfl)
    have c5 := HF.ev.cell 5 _ rfl
    have r5 := HF.rs.cell 5 _ rfl
    have f5 := HF.rs.fz 5 (by exact Nat.le_of_ble_eq_true rfl)
    have c6 := HF.ev.cell 6 _ rfl
    have r6 := HF.rs.cell 6 _ rfl
    have f6 := HF.rs.fz 6 (by exact Nat.le_of_ble_eq_true rfl)
    go_wp2_with fail
    refine bodyPost_ret (by simp only [results, Tryz.results121]; go_simp; rfl) rfl ?_
    exact ⟨⟨_, _, _, _, _, _, _, rfl, (by first | assumption | (unfold I64; omega) | exact wrap_within _ _ | exact wrap64_bd _), (by first | assumption | (unfold I64; omega) | exact wrap_within _ _ | exact wrap64_bd _), (by first | assumption | (unfold I64; omega) | exact wrap_within _ _ | exact wrap64_bd _), (by first | assumption | (unfold I64; omega) | exact wrap_within _ _ | exact wrap64_bd _), (by first | assumption | (unfold I64; omega) | exact wrap_within _ _ | exact wrap64_bd _), (by first | assumption | (unfold I64; omega) | exact wrap_within _ _ | exact wrap64_bd _)⟩, HF.done [.int .i64 (k), .int .i64 (y), .int .i64 (ch), .int .i64 (too), .int .i64 (amt), .int .i64 (fee), .bool (yes)]⟩
  · go_wp2_with fail
    refine (raw_any _ _ _ _ _ HE3.dr.cur).mono ?_
    rintro e w5 ⟨⟨y, rfl, hy0, hy1⟩, D5⟩
    have HE5 := HE3.draw D5
    have hy : I64 y := ⟨hy0, hy1⟩
    have cj := HE5.ev.cell 2 _ rfl
    have fj := HE5.ev.fz 2 (by exact Nat.le_of_ble_eq_true rfl)
    clear HE3 D5
    have HF : DX w a len cap g w.heap.size w1.heap.size [.int .i64 0, .int .i64 0, .int .i64 0, .int .i64 0, .int .i64 0, .int .i64 0, .bool false] [.int .i64 (k), .int .i64 (key), .int .i64 (y), .int .i64 (too), .int .i64 (amt), .int .i64 (fee), .bool (yes)] (w5.setCell ⟨w1.heap.size, 2, none⟩ (.int .i64 y)) := HE5.put 2 (.int .i64 y) (by exact Nat.le_of_ble_eq_true rfl)
    go_upto_region 17 with fail
    generalize w5.setCell ⟨w1.heap.size, 2, none⟩ (.int .i64 y) = XF at HF ⊢
    have c0 := HF.ev.cell 0 _ rfl
    have r0 := HF.rs.cell 0 _ rfl
    have f0 := HF.rs.fz 0 (by exact Nat.le_of_ble_eq_true rfl)
    have c1 := HF.ev.cell 1 _ rfl
    have r1 := HF.rs.cell 1 _ rfl
    have f1 := HF.rs.fz 1 (by exact Nat.le_of_ble_eq_true rfl)
    have c2 := HF.ev.cell 2 _ rfl
    have r2 := HF.rs.cell 2 _ rfl
    have f2 := HF.rs.fz 2 (by exact Nat.le_of_ble_eq_true rfl)
    have c3 := HF.ev.cell 3 _ rfl
    have r3 := HF.rs.cell 3 _ rfl
    have f3 := HF.rs.fz 3 (by exact Nat.le_of_ble_eq_true rfl)
    have c4 := HF.ev.cell 4 _ rfl
    have r4 := HF.rs.cell 4 _ rfl
    have f4 := HF.rs.fz 4 (by exact Nat.le_of_ble_eq_true rfl)
    have c5 := HF.ev.cell 5 _ rfl
    have r5 := HF.rs.cell 5 _ rfl
    have f5 := HF.rs.fz 5 (by exact Nat.le_of_ble_eq_true rfl)
    have c6 := HF.ev.cell 6 _ rfl
    have r6 := HF.rs.cell 6 _ rfl
    have f6 := HF.rs.fz 6 (by exact Nat.le_of_ble_eq_true rfl)
    go_wp2_with fail
    refine bodyPost_ret (by simp only [results, Tryz.results121]; go_simp; rfl) rfl ?_
    exact ⟨⟨_, _, _, _, _, _, _, rfl, (by first | assumption | (unfold I64; omega) | exact wrap_within _ _ | exact wrap64_bd _), (by first | assumption | (unfold I64; omega) | exact wrap_within _ _ | exact wrap64_bd _), (by first | assumption | (unfold I64; omega) | exact wrap_within _ _ | exact wrap64_bd _), (by first | assumption | (unfold I64; omega) | exact wrap_within _ _ | exact wrap64_bd _), (by first | assumption | (unfold I64; omega) | exact wrap_within _ _ | exact wrap64_bd _), (by first | assumption | (unfold I64; omega) | exact wrap_within _ _ | exact wrap64_bd _)⟩, HF.done [.int .i64 (k), .int .i64 (key), .int .i64 (y), .int .i64 (too), .int .i64 (amt), .int .i64 (fee), .bool (yes)]⟩
  · go_wp2_with fail
    refine (raw_any _ _ _ _ _ HE3.dr.cur).mono ?_
    rintro e w5 ⟨⟨y, rfl, hy0, hy1⟩, D5⟩
    have HE5 := HE3.draw D5
    have hy : I64 y := ⟨hy0, hy1⟩
    have cj := HE5.ev.cell 4 _ rfl
    have fj := HE5.ev.fz 4 (by exact Nat.le_of_ble_eq_true rfl)
    clear HE3 D5
    have HF : DX w a len cap g w.heap.size w1.heap.size [.int .i64 0, .int .i64 0, .int .i64 0, .int .i64 0, .int .i64 0, .int .i64 0, .bool false] [.int .i64 (k), .int .i64 (key), .int .i64 (ch), .int .i64 (too), .int .i64 (y), .int .i64 (fee), .bool (yes)] (w5.setCell ⟨w1.heap.size, 4, none⟩ (.int .i64 y)) := HE5.put 4 (.int .i64 y) (by exact Nat.le_of_ble_eq_true rfl)
    go_upto_region 17 with fail
    generalize w5.setCell ⟨w1.heap.size, 4, none⟩ (.int .i64 y) = XF at HF ⊢
    have c0 := HF.ev.cell 0 _ rfl
    have r0 := HF.rs.cell 0 _ rfl
    have f0 := HF.rs.fz 0 (by exact Nat.le_of_ble_eq_true rfl)
    have c1 := HF.ev.cell 1 _ rfl
    have r1 := HF.rs.cell 1 _ rfl
    have f1 := HF.rs.fz 1 (by exact Nat.le_of_ble_eq_true rfl)
    have c2 := HF.ev.cell 2 _ rfl
    have r2 := HF.rs.cell 2 _ rfl
    have f2 := HF.rs.fz 2 (by exact Nat.le_of_ble_eq_true rfl)
    have c3 := HF.ev.cell 3 _ rfl
    have r3 := HF.rs.cell 3 _ rfl
    have f3 := HF.rs.fz 3 (by exact Nat.le_of_ble_eq_true rfl)
    have c4 := HF.ev.cell 4 _ rfl
    have r4 := HF.rs.cell 4 _ rfl
    have f4 := HF.rs.fz 4 (by exact Nat.le_of_ble_eq_true rfl)
    have c5 := HF.ev.cell 5 _ rfl
    have r5 := HF.rs.cell 5 _ rfl
    have f5 := HF.rs.fz 5 (by exact Nat.le_of_ble_eq_true rfl)
    have c6 := HF.ev.cell 6 _ rfl
    have r6 := HF.rs.cell 6 _ rfl
    have f6 := HF.rs.fz 6 (by exact Nat.le_of_ble_eq_true rfl)
    go_wp2_with fail
    refine bodyPost_ret (by simp only [results, Tryz.results121]; go_simp; rfl) rfl ?_
    exact ⟨⟨_, _, _, _, _, _, _, rfl, (by first | assumption | (unfold I64; omega) | exact wrap_within _ _ | exact wrap64_bd _), (by first | assumption | (unfold I64; omega) | exact wrap_within _ _ | exact wrap64_bd _), (by first | assumption | (unfold I64; omega) | exact wrap_within _ _ | exact wrap64_bd _), (by first | assumption | (unfold I64; omega) | exact wrap_within _ _ | exact wrap64_bd _), (by first | assumption | (unfold I64; omega) | exact wrap_within _ _ | exact wrap64_bd _), (by first | assumption | (unfold I64; omega) | exact wrap_within _ _ | exact wrap64_bd _)⟩, HF.done [.int .i64 (k), .int .i64 (key), .int .i64 (ch), .int .i64 (too), .int .i64 (y), .int .i64 (fee), .bool (yes)]⟩
  · go_wp2_with fail
    refine (raw_any _ _ _ _ _ HE3.dr.cur).mono ?_
    rintro e w5 ⟨⟨y, rfl, hy0, hy1⟩, D5⟩
    have HE5 := HE3.draw D5
    have hy : I64 y := ⟨hy0, hy1⟩
    have cj := HE5.ev.cell 5 _ rfl
    have fj := HE5.ev.fz 5 (by exact Nat.le_of_ble_eq_true rfl)
    clear HE3 D5
    have HF : DX w a len cap g w.heap.size w1.heap.size [.int .i64 0, .int .i64 0, .int .i64 0, .int .i64 0, .int .i64 0, .int .i64 0, .bool false] [.int .i64 (k), .int .i64 (key), .int .i64 (ch), .int .i64 (too), .int .i64 (amt), .int .i64 (y), .bool (yes)] (w5.setCell ⟨w1.heap.size, 5, none⟩ (.int .i64 y)) := HE5.put 5 (.int .i64 y) (by exact Nat.le_of_ble_eq_true rfl)
    go_upto_region 17 with fail
    generalize w5.setCell ⟨w1.heap.size, 5, none⟩ (.int .i64 y) = XF at HF ⊢
    have c0 := HF.ev.cell 0 _ rfl
    have r0 := HF.rs.cell 0 _ rfl
    have f0 := HF.rs.fz 0 (by exact Nat.le_of_ble_eq_true rfl)
    have c1 := HF.ev.cell 1 _ rfl
    have r1 := HF.rs.cell 1 _ rfl
    have f1 := HF.rs.fz 1 (by exact Nat.le_of_ble_eq_true rfl)
    have c2 := HF.ev.cell 2 _ rfl
    have r2 := HF.rs.cell 2 _ rfl
    have f2 := HF.rs.fz 2 (by exact Nat.le_of_ble_eq_true rfl)
    have c3 := HF.ev.cell 3 _ rfl
    have r3 := HF.rs.cell 3 _ rfl
    have f3 := HF.rs.fz 3 (by exact Nat.le_of_ble_eq_true rfl)
    have c4 := HF.ev.cell 4 _ rfl
    have r4 := HF.rs.cell 4 _ rfl
    have f4 := HF.rs.fz 4 (by exact Nat.le_of_ble_eq_true rfl)
    have c5 := HF.ev.cell 5 _ rfl
    have r5 := HF.rs.cell 5 _ rfl
    have f5 := HF.rs.fz 5 (by exact Nat.le_of_ble_eq_true rfl)
    have c6 := HF.ev.cell 6 _ rfl
    have r6 := HF.rs.cell 6 _ rfl
    have f6 := HF.rs.fz 6 (by exact Nat.le_of_ble_eq_true rfl)
    go_wp2_with fail
    refine bodyPost_ret (by simp only [results, Tryz.results121]; go_simp; rfl) rfl ?_
    exact ⟨⟨_, _, _, _, _, _, _, rfl, (by first | assumption | (unfold I64; omega) | exact wrap_within _ _ | exact wrap64_bd _), (by first | assumption | (unfold I64; omega) | exact wrap_within _ _ | exact wrap64_bd _), (by first | assumption | (unfold I64; omega) | exact wrap_within _ _ | exact wrap64_bd _), (by first | assumption | (unfold I64; omega) | exact wrap_within _ _ | exact wrap64_bd _), (by first | assumption | (unfold I64; omega) | exact wrap_within _ _ | exact wrap64_bd _), (by first | assumption | (unfold I64; omega) | exact wrap_within _ _ | exact wrap64_bd _)⟩, HF.done [.int .i64 (k), .int .i64 (key), .int .i64 (ch), .int .i64 (too), .int .i64 (amt), .int .i64 (y), .bool (yes)]⟩
  · have c2 := HE3.ev.cell 2 _ rfl
    have cj := HE3.ev.cell 3 _ rfl
    have fj := HE3.ev.fz 3 (by exact Nat.le_of_ble_eq_true rfl)
    have HF : DX w a len cap g w.heap.size w1.heap.size [.int .i64 0, .int .i64 0, .int .i64 0, .int .i64 0, .int .i64 0, .int .i64 0, .bool false] [.int .i64 (k), .int .i64 (key), .int .i64 (ch), .int .i64 (ch), .int .i64 (amt), .int .i64 (fee), .bool (yes)] (w3.setCell ⟨w1.heap.size, 3, none⟩ (.int .i64 ch)) := HE3.put 3 (.int .i64 ch) (by exact Nat.le_of_ble_eq_true rfl)
    go_upto_region 17 with fail
    generalize w3.setCell ⟨w1.heap.size, 3, none⟩ (.int .i64 ch) = XF at HF ⊢
    have c0 := HF.ev.cell 0 _ rfl
    have r0 := HF.rs.cell 0 _ rfl
    have f0 := HF.rs.fz 0 (by exact Nat.le_of_ble_eq_true rfl)
    have c1 := HF.ev.cell 1 _ rfl
    have r1 := HF.rs.cell 1 _ rfl
    have f1 := HF.rs.fz 1 (by exact Nat.le_of_ble_eq_true rfl)
    have c2 := HF.ev.cell 2 _ rfl
    have r2 := HF.rs.cell 2 _ rfl
    have f2 := HF.rs.fz 2 (by exact Nat.le_of_ble_eq_true rfl)
    have c3 := HF.ev.cell 3 _ rfl
    have r3 := HF.rs.cell 3 _ rfl
    have f3 := HF.rs.fz 3 (by exact Nat.le_of_ble_eq_true rfl)
    have c4 := HF.ev.cell 4 _ rfl
    have r4 := HF.rs.cell 4 _ rfl
    have f4 := HF.rs.fz 4 (by exact Nat.le_of_ble_eq_true rfl)
    have c5 := HF.ev.cell 5 _ rfl
    have r5 := HF.rs.cell 5 _ rfl
    have f5 := HF.rs.fz 5 (by exact Nat.le_of_ble_eq_true rfl)
    have c6 := HF.ev.cell 6 _ rfl
    have r6 := HF.rs.cell 6 _ rfl
    have f6 := HF.rs.fz 6 (by exact Nat.le_of_ble_eq_true rfl)
    go_wp2_with fail
    refine bodyPost_ret (by simp only [results, Tryz.results121]; go_simp; rfl) rfl ?_
    exact ⟨⟨_, _, _, _, _, _, _, rfl, (by first | assumption | (unfold I64; omega) | exact wrap_within _ _ | exact wrap64_bd _), (by first | assumption | (unfold I64; omega) | exact wrap_within _ _ | exact wrap64_bd _), (by first | assumption | (unfold I64; omega) | exact wrap_within _ _ | exact wrap64_bd _), (by first | assumption | (unfold I64; omega) | exact wrap_within _ _ | exact wrap64_bd _), (by first | assumption | (unfold I64; omega) | exact wrap_within _ _ | exact wrap64_bd _), (by first | assumption | (unfold I64; omega) | exact wrap_within _ _ | exact wrap64_bd _)⟩, HF.done [.int .i64 (k), .int .i64 (key), .int .i64 (ch), .int .i64 (ch), .int .i64 (amt), .int .i64 (fee), .bool (yes)]⟩
  · have cj := HE3.ev.cell 6 _ rfl
    have fj := HE3.ev.fz 6 (by exact Nat.le_of_ble_eq_true rfl)
    have HF : DX w a len cap g w.heap.size w1.heap.size [.int .i64 0, .int .i64 0, .int .i64 0, .int .i64 0, .int .i64 0, .int .i64 0, .bool false] [.int .i64 (k), .int .i64 (key), .int .i64 (ch), .int .i64 (too), .int .i64 (amt), .int .i64 (fee), .bool (!yes)] (w3.setCell ⟨w1.heap.size, 6, none⟩ (.bool (!yes))) := HE3.put 6 (.bool (!yes)) (by exact Nat.le_of_ble_eq_true rfl)
    go_upto_region 17 with fail
    generalize w3.setCell ⟨w1.heap.size, 6, none⟩ (.bool (!yes)) = XF at HF ⊢
    have c0 := HF.ev.cell 0 _ rfl
    have r0 := HF.rs.cell 0 _ rfl
    have f0 := HF.rs.fz 0 (by exact Nat.le_of_ble_eq_true rfl)
    have c1 := HF.ev.cell 1 _ rfl
    have r1 := HF.rs.cell 1 _ rfl
    have f1 := HF.rs.fz 1 (by exact Nat.le_of_ble_eq_true rfl)
    have c2 := HF.ev.cell 2 _ rfl
    have r2 := HF.rs.cell 2 _ rfl
    have f2 := HF.rs.fz 2 (by exact Nat.le_of_ble_eq_true rfl)
    have c3 := HF.ev.cell 3 _ rfl
    have r3 := HF.rs.cell 3 _ rfl
    have f3 := HF.rs.fz 3 (by exact Nat.le_of_ble_eq_true rfl)
    have c4 := HF.ev.cell 4 _ rfl
    have r4 := HF.rs.cell 4 _ rfl
    have f4 := HF.rs.fz 4 (by exact Nat.le_of_ble_eq_true rfl)
    have c5 := HF.ev.cell 5 _ rfl
    have r5 := HF.rs.cell 5 _ rfl
    have f5 := HF.rs.fz 5 (by exact Nat.le_of_ble_eq_true rfl)
    have c6 := HF.ev.cell 6 _ rfl
    have r6 := HF.rs.cell 6 _ rfl
    have f6 := HF.rs.fz 6 (by exact Nat.le_of_ble_eq_true rfl)
    go_wp2_with fail
    refine bodyPost_ret (by simp only [results, Tryz.results121]; go_simp; rfl) rfl ?_
    exact ⟨⟨_, _, _, _, _, _, _, rfl, (by first | assumption | (unfold I64; omega) | exact wrap_within _ _ | exact wrap64_bd _), (by first | assumption | (unfold I64; omega) | exact wrap_within _ _ | exact wrap64_bd _), (by first | assumption | (unfold I64; omega) | exact wrap_within _ _ | exact wrap64_bd _), (by first | assumption | (unfold I64; omega) | exact wrap_within _ _ | exact wrap64_bd _), (by first | assumption | (unfold I64; omega) | exact wrap_within _ _ | exact wrap64_bd _), (by first | assumption | (unfold I64; omega) | exact wrap_within _ _ | exact wrap64_bd _)⟩, HF.done [.int .i64 (k), .int .i64 (key), .int .i64 (ch), .int .i64 (too), .int .i64 (amt), .int .i64 (fee), .bool (!yes)]⟩
  · skip
    have HF : DX w a len cap g w.heap.size w1.heap.size [.int .i64 0, .int .i64 0, .int .i64 0, .int .i64 0, .int .i64 0, .int .i64 0, .bool false] [.int .i64 (k), .int .i64 (key), .int .i64 (ch), .int .i64 (too), .int .i64 (amt), .int .i64 (fee), .bool (yes)] (w3) := HE3
    go_upto_region 17 with fail
    have c0 := HF.ev.cell 0 _ rfl
    have r0 := HF.rs.cell 0 _ rfl
    have f0 := HF.rs.fz 0 (by exact Nat.le_of_ble_eq_true rfl)
    have c1 := HF.ev.cell 1 _ rfl
    have r1 := HF.rs.cell 1 _ rfl
    have f1 := HF.rs.fz 1 (by exact Nat.le_of_ble_eq_true rfl)
    have c2 := HF.ev.cell 2 _ rfl
    have r2 := HF.rs.cell 2 _ rfl
    have f2 := HF.rs.fz 2 (by exact Nat.le_of_ble_eq_true rfl)
    have c3 := HF.ev.cell 3 _ rfl
    have r3 := HF.rs.cell 3 _ rfl
    have f3 := HF.rs.fz 3 (by exact Nat.le_of_ble_eq_true rfl)
    have c4 := HF.ev.cell 4 _ rfl
    have r4 := HF.rs.cell 4 _ rfl
    have f4 := HF.rs.fz 4 (by exact Nat.le_of_ble_eq_true rfl)
    have c5 := HF.ev.cell 5 _ rfl
    have r5 := HF.rs.cell 5 _ rfl
    have f5 := HF.rs.fz 5 (by exact Nat.le_of_ble_eq_true rfl)
    have c6 := HF.ev.cell 6 _ rfl
    have r6 := HF.rs.cell 6 _ rfl
    have f6 := HF.rs.fz 6 (by exact Nat.le_of_ble_eq_true rfl)
    go_wp2_with fail
    refine bodyPost_ret (by simp only [results, Tryz.results121]; go_simp; rfl) rfl ?_
    exact ⟨⟨_, _, _, _, _, _, _, rfl, (by first | assumption | (unfold I64; omega) | exact wrap_within _ _ | exact wrap64_bd _), (by first | assumption | (unfold I64; omega) | exact wrap_within _ _ | exact wrap64_bd _), (by first | assumption | (unfold I64; omega) | exact wrap_within _ _ | exact wrap64_bd _), (by first | assumption | (unfold I64; omega) | exact wrap_within _ _ | exact wrap64_bd _), (by first | assumption | (unfold I64; omega) | exact wrap_within _ _ | exact wrap64_bd _), (by first | assumption | (unfold I64; omega) | exact wrap_within _ _ | exact wrap64_bd _)⟩, HF.done [.int .i64 (k), .int .i64 (key), .int .i64 (ch), .int .i64 (too), .int .i64 (amt), .int .i64 (fee), .bool (yes)]⟩

set_option maxRecDepth 100000 in
set_option maxHeartbeats 6400000 in
theorem l10Rule_any (a : Option Addr) (len cap g : Nat) (w : World) (C0 : Cur w a len cap g) : Calls Tryz.prog 149 #[.pointer (some ⟨g, 0, none⟩)] w fun e w' =>
    (∃ (lo hi st mn mx : Int), e = .returned (.agg #[.int .i64 lo, .int .i64 hi, .int .i64 st, .int .i64 mn, .int .i64 mx]) ∧ I64 lo ∧ I64 hi ∧ I64 st ∧ I64 mn ∧ I64 mx) ∧ Drew w a len cap g w' := by
  have hg := C0.lt
  go_enter Tryz.func149, Tryz.ntmps149
  go_upto_region 1 with fail
  have R0 : Bx (w.alloc (.cells #[.int .i64 0, .int .i64 0, .int .i64 0, .int .i64 0, .int .i64 0] 77)) w.heap.size [.int .i64 0, .int .i64 0, .int .i64 0, .int .i64 0, .int .i64 0] := Bx.new _ _ _ [.int .i64 0, .int .i64 0, .int .i64 0, .int .i64 0, .int .i64 0] rfl (by exact Nat.zero_lt_succ _) _ rfl
  have D0 : Drew w a len cap g (w.alloc (.cells #[.int .i64 0, .int .i64 0, .int .i64 0, .int .i64 0, .int .i64 0] 77)) := (Drew.refl C0).alloc _
  generalize w.alloc (.cells #[.int .i64 0, .int .i64 0, .int .i64 0, .int .i64 0, .int .i64 0] 77) = X0 at R0 D0 ⊢
  go_wp2_with fail
  refine (below_any _ _ _ _ 60 _ D0.cur).mono ?_
  rintro e wa ⟨⟨lo, rfl, hlo0, hlo1⟩, D1⟩
  have hlo2 := hlo1 (by omega)
  replace R0 := R0.drawn R0.ne D1.grown (by omega)
  replace D0 := D0.trans D1
  clear D1 hlo1
  go_wp2_with fail
  refine (below_any _ _ _ _ 400 _ D0.cur).mono ?_
  rintro e wb ⟨⟨st, rfl, hst0, hst1⟩, D1⟩
  have hst2 := hst1 (by omega)
  replace R0 := R0.drawn R0.ne D1.grown (by omega)
  replace D0 := D0.trans D1
  clear D1 hst1
  go_wp2_with fail
  refine (below_any _ _ _ _ 300 _ D0.cur).mono ?_
  rintro e w1 ⟨⟨mn, rfl, hmn0, hmn1⟩, D1⟩
  have hmn2 := hmn1 (by omega)
  replace R0 := R0.drawn R0.ne D1.grown (by omega)
  replace D0 := D0.trans D1
  clear D1 hmn1
  have HE := DX.start D0 R0 #[.int .i64 lo, .int .i64 0, .int .i64 st, .int .i64 mn, .int .i64 0] 77 [.int .i64 lo, .int .i64 0, .int .i64 st, .int .i64 mn, .int .i64 0] rfl (by exact Nat.zero_lt_succ _) (by omega) (Nat.le_refl _)
  clear R0 D0
  go_upto_region 2 with fail
  generalize w1.alloc (.cells #[.int .i64 lo, .int .i64 0, .int .i64 st, .int .i64 mn, .int .i64 0] 77) = X4 at HE ⊢
  have c0 := HE.ev.cell 0 _ rfl
  go_cut [] (fun wq => ∃ (lo hi st mn mx : Int), I64 lo ∧ I64 hi ∧ I64 st ∧ I64 mn ∧ I64 mx ∧ DX w a len cap g w.heap.size w1.heap.size [.int .i64 0, .int .i64 0, .int .i64 0, .int .i64 0, .int .i64 0] [.int .i64 lo, .int .i64 hi, .int .i64 st, .int .i64 mn, .int .i64 mx] wq)
  case first =>
    go_region_with (go_at_call 44; refine (below_any _ _ _ _ 41 _ (HE.drew.dr.cur)).mono ?_; rintro e w3 ⟨⟨y, rfl, hy0, hy1⟩, D3⟩; have hy2 := hy1 (by omega); have HE3 := HE.drew.draw D3; have c0 := HE3.ev.cell 0 _ rfl; have cj := HE3.ev.cell 1 _ rfl; have fj := HE3.ev.fz 1 (by exact Nat.le_of_ble_eq_true rfl); clear D3 hy1)
    all_goals
      go_wp2_with fail
      go_meet
      case rel => exact ⟨lo, IntKind.i64.wrap (lo + y), st, mn, 0, (by unfold I64; omega), wrap_within _ _, (by unfold I64; omega), (by unfold I64; omega), (by unfold I64; omega), HE3.put 1 (.int .i64 (IntKind.i64.wrap (lo + y))) (by exact Nat.le_of_ble_eq_true rfl)⟩
  case rest =>
    clear hlo0 hlo2 hst0 hst2 hmn0 hmn2 c0 HE
    obtain ⟨lo, hi, st, mn, mx, hlo, hhi, hst, hmn, hmx, HE⟩ := hcut
    have c3 := HE.ev.cell 3 _ rfl
    go_upto_region 3 with fail
    go_cut [] (fun wq => ∃ (lo hi st mn mx : Int), I64 lo ∧ I64 hi ∧ I64 st ∧ I64 mn ∧ I64 mx ∧ DX w a len cap g w.heap.size w1.heap.size [.int .i64 0, .int .i64 0, .int .i64 0, .int .i64 0, .int .i64 0] [.int .i64 lo, .int .i64 hi, .int .i64 st, .int .i64 mn, .int .i64 mx] wq)
    case first =>
      go_region_with (go_at_call 44; refine (below_any _ _ _ _ 4000 _ (HE.drew.dr.cur)).mono ?_; rintro e w3 ⟨⟨y, rfl, hy0, hy1⟩, D3⟩; have hy2 := hy1 (by omega); have HE3 := HE.drew.draw D3; have c3 := HE3.ev.cell 3 _ rfl; have cj := HE3.ev.cell 4 _ rfl; have fj := HE3.ev.fz 4 (by exact Nat.le_of_ble_eq_true rfl); clear D3 hy1)
      all_goals
        go_wp2_with fail
        go_meet
        case rel => exact ⟨lo, hi, st, mn, IntKind.i64.wrap (mn + y), hlo, hhi, hst, hmn, wrap_within _ _, HE3.put 4 (.int .i64 (IntKind.i64.wrap (mn + y))) (by exact Nat.le_of_ble_eq_true rfl)⟩
    case rest =>
      clear hlo hhi hst hmn hmx c3 HE
      obtain ⟨lo, hi, st, mn, mx, hlo, hhi, hst, hmn, hmx, HE⟩ := hcut
      have HF : DX w a len cap g w.heap.size w1.heap.size [.int .i64 0, .int .i64 0, .int .i64 0, .int .i64 0, .int .i64 0] [.int .i64 (lo), .int .i64 (hi), .int .i64 (st), .int .i64 (mn), .int .i64 (mx)] (wc) := HE
      go_upto_region 4 with fail
      skip
      have c0 := HF.ev.cell 0 _ rfl
      have r0 := HF.rs.cell 0 _ rfl
      have f0 := HF.rs.fz 0 (by exact Nat.le_of_ble_eq_true rfl)
      have c1 := HF.ev.cell 1 _ rfl
      have r1 := HF.rs.cell 1 _ rfl
      have f1 := HF.rs.fz 1 (by exact Nat.le_of_ble_eq_true rfl)
      have c2 := HF.ev.cell 2 _ rfl
      have r2 := HF.rs.cell 2 _ rfl
      have f2 := HF.rs.fz 2 (by exact Nat.le_of_ble_eq_true rfl)
      have c3 := HF.ev.cell 3 _ rfl
      have r3 := HF.rs.cell 3 _ rfl
      have f3 := HF.rs.fz 3 (by exact Nat.le_of_ble_eq_true rfl)
      have c4 := HF.ev.cell 4 _ rfl
      have r4 := HF.rs.cell 4 _ rfl
      have f4 := HF.rs.fz 4 (by exact Nat.le_of_ble_eq_true rfl)
      go_wp2_with fail
      refine bodyPost_ret (by simp only [results, Tryz.results149]; go_simp; rfl) rfl ?_
      exact ⟨⟨_, _, _, _, _, rfl, (by first | assumption | (unfold I64; omega) | exact wrap_within _ _ | exact wrap64_bd _), (by first | assumption | (unfold I64; omega) | exact wrap_within _ _ | exact wrap64_bd _), (by first | assumption | (unfold I64; omega) | exact wrap_within _ _ | exact wrap64_bd _), (by first | assumption | (unfold I64; omega) | exact wrap_within _ _ | exact wrap64_bd _), (by first | assumption | (unfold I64; omega) | exact wrap_within _ _ | exact wrap64_bd _)⟩, HF.done [.int .i64 (lo), .int .i64 (hi), .int .i64 (st), .int .i64 (mn), .int .i64 (mx)]⟩

set_option maxRecDepth 100000 in
set_option maxHeartbeats 6400000 in
theorem l10Any_any (a : Option Addr) (len cap g : Nat) (w : World) (C0 : Cur w a len cap g) : Calls Tryz.prog 123 #[.pointer (some ⟨g, 0, none⟩)] w fun e w' =>
    (∃ (lo hi st mn mx : Int), e = .returned (.agg #[.int .i64 lo, .int .i64 hi, .int .i64 st, .int .i64 mn, .int .i64 mx]) ∧ I64 lo ∧ I64 hi ∧ I64 st ∧ I64 mn ∧ I64 mx) ∧ Drew w a len cap g w' := by
  have hg := C0.lt
  go_enter Tryz.func123, Tryz.ntmps123
  go_upto_region 1 with fail
  have R0 : Bx (w.alloc (.cells #[.int .i64 0, .int .i64 0, .int .i64 0, .int .i64 0, .int .i64 0] 77)) w.heap.size [.int .i64 0, .int .i64 0, .int .i64 0, .int .i64 0, .int .i64 0] := Bx.new _ _ _ [.int .i64 0, .int .i64 0, .int .i64 0, .int .i64 0, .int .i64 0] rfl (by exact Nat.zero_lt_succ _) _ rfl
  have D0 : Drew w a len cap g (w.alloc (.cells #[.int .i64 0, .int .i64 0, .int .i64 0, .int .i64 0, .int .i64 0] 77)) := (Drew.refl C0).alloc _
  generalize w.alloc (.cells #[.int .i64 0, .int .i64 0, .int .i64 0, .int .i64 0, .int .i64 0] 77) = X0 at R0 D0 ⊢
  go_wp2_with fail
  refine (l10Rule_any _ _ _ _ _ D0.cur).mono ?_
  rintro e w1 ⟨⟨lo, hi, st, mn, mx, rfl, hlo, hhi, hst, hmn, hmx⟩, D1⟩
  have HE := DX.start (D0.trans D1) (R0.drawn R0.ne D1.grown (by omega)) #[.int .i64 lo, .int .i64 hi, .int .i64 st, .int .i64 mn, .int .i64 mx] 77 [.int .i64 lo, .int .i64 hi, .int .i64 st, .int .i64 mn, .int .i64 mx] rfl (by exact Nat.zero_lt_succ _) (by omega) (Nat.le_refl _)
  clear R0 D0 D1
  go_upto_region 2 with fail
  generalize w1.alloc (.cells #[.int .i64 lo, .int .i64 hi, .int .i64 st, .int .i64 mn, .int .i64 mx] 77) = X4 at HE ⊢
  go_wp2_with fail
  refine (below_any _ _ _ _ 14 _ HE.dr.cur).mono ?_
  rintro e w3 ⟨⟨x, rfl, hx0, hx1⟩, D3⟩
  have hx2 := hx1 (by omega)
  have HE3 := HE.draw D3
  clear HE D3 hx1
  rcases (show x = 0 ∨ x = 2 ∨ x = 1 ∨ x = 3 ∨ 3 < x by omega) with rfl | rfl | rfl | rfl | hx3
  · have c0 := HE3.ev.cell 0 _ rfl
    have cj := HE3.ev.cell 1 _ rfl
    have fj := HE3.ev.fz 1 (by exact Nat.le_of_ble_eq_true rfl)
    have HF : DX w a len cap g w.heap.size w1.heap.size [.int .i64 0, .int .i64 0, .int .i64 0, .int .i64 0, .int .i64 0] [.int .i64 (lo), .int .i64 (wrap64 (lo - 1)), .int .i64 (st), .int .i64 (mn), .int .i64 (mx)] (w3.setCell ⟨w1.heap.size, 1, none⟩ (.int .i64 (wrap64 (lo - 1)))) := HE3.put 1 (.int .i64 (wrap64 (lo - 1))) (by exact Nat.le_of_ble_eq_true rfl)
    go_upto_region 11 with fail
    generalize w3.setCell ⟨w1.heap.size, 1, none⟩ (.int .i64 (wrap64 (lo - 1))) = XF at HF ⊢
    have c0 := HF.ev.cell 0 _ rfl
    have r0 := HF.rs.cell 0 _ rfl
    have f0 := HF.rs.fz 0 (by exact Nat.le_of_ble_eq_true rfl)
    have c1 := HF.ev.cell 1 _ rfl
    have r1 := HF.rs.cell 1 _ rfl
    have f1 := HF.rs.fz 1 (by exact Nat.le_of_ble_eq_true rfl)
    have c2 := HF.ev.cell 2 _ rfl
    have r2 := HF.rs.cell 2 _ rfl
    have f2 := HF.rs.fz 2 (by exact Nat.le_of_ble_eq_true rfl)
    have c3 := HF.ev.cell 3 _ rfl
    have r3 := HF.rs.cell 3 _ rfl
    have f3 := HF.rs.fz 3 (by exact Nat.le_of_ble_eq_true rfl)
    have c4 := HF.ev.cell 4 _ rfl
    have r4 := HF.rs.cell 4 _ rfl
    have f4 := HF.rs.fz 4 (by exact Nat.le_of_ble_eq_true rfl)
    go_wp2_with fail
    refine bodyPost_ret (by simp only [results, Tryz.results123]; go_simp; rfl) rfl ?_
    exact ⟨⟨_, _, _, _, _, rfl, (by first | assumption | (unfold I64; omega) | exact wrap_within _ _ | exact wrap64_bd _), (by first | assumption | (unfold I64; omega) | exact wrap_within _ _ | exact wrap64_bd _), (by first | assumption | (unfold I64; omega) | exact wrap_within _ _ | exact wrap64_bd _), (by first | assumption | (unfold I64; omega) | exact wrap_within _ _ | exact wrap64_bd _), (by first | assumption | (unfold I64; omega) | exact wrap_within _ _ | exact wrap64_bd _)⟩, HF.done [.int .i64 (lo), .int .i64 (wrap64 (lo - 1)), .int .i64 (st), .int .i64 (mn), .int .i64 (mx)]⟩
  · have c3 := HE3.ev.cell 3 _ rfl
    have cj := HE3.ev.cell 4 _ rfl
    have fj := HE3.ev.fz 4 (by exact Nat.le_of_ble_eq_true rfl)
    have HF : DX w a len cap g w.heap.size w1.heap.size [.int .i64 0, .int .i64 0, .int .i64 0, .int .i64 0, .int .i64 0] [.int .i64 (lo), .int .i64 (hi), .int .i64 (st), .int .i64 (mn), .int .i64 (wrap64 (mn - 1))] (w3.setCell ⟨w1.heap.size, 4, none⟩ (.int .i64 (wrap64 (mn - 1)))) := HE3.put 4 (.int .i64 (wrap64 (mn - 1))) (by exact Nat.le_of_ble_eq_true rfl)
    go_upto_region 11 with fail
    generalize w3.setCell ⟨w1.heap.size, 4, none⟩ (.int .i64 (wrap64 (mn - 1))) = XF at HF ⊢
    have c0 := HF.ev.cell 0 _ rfl
    have r0 := HF.rs.cell 0 _ rfl
    have f0 := HF.rs.fz 0 (by exact Nat.le_of_ble_eq_true rfl)
    have c1 := HF.ev.cell 1 _ rfl
    have r1 := HF.rs.cell 1 _ rfl
    have f1 := HF.rs.fz 1 (by exact Nat.le_of_ble_eq_true rfl)
    have c2 := HF.ev.cell 2 _ rfl
    have r2 := HF.rs.cell 2 _ rfl
    have f2 := HF.rs.fz 2 (by exact Nat.le_of_ble_eq_true rfl)
    have c3 := HF.ev.cell 3 _ rfl
    have r3 := HF.rs.cell 3 _ rfl
    have f3 := HF.rs.fz 3 (by exact Nat.le_of_ble_eq_true rfl)
    have c4 := HF.ev.cell 4 _ rfl
    have r4 := HF.rs.cell 4 _ rfl
    have f4 := HF.rs.fz 4 (by exact Nat.le_of_ble_eq_true rfl)
    go_wp2_with fail
    refine bodyPost_ret (by simp only [results, Tryz.results123]; go_simp; rfl) rfl ?_
    exact ⟨⟨_, _, _, _, _, rfl, (by first | assumption | (unfold I64; omega) | exact wrap_within _ _ | exact wrap64_bd _), (by first | assumption | (unfold I64; omega) | exact wrap_within _ _ | exact wrap64_bd _), (by first | assumption | (unfold I64; omega) | exact wrap_within _ _ | exact wrap64_bd _), (by first | assumption | (unfold I64; omega) | exact wrap_within _ _ | exact wrap64_bd _), (by first | assumption | (unfold I64; omega) | exact wrap_within _ _ | exact wrap64_bd _)⟩, HF.done [.int .i64 (lo), .int .i64 (hi), .int .i64 (st), .int .i64 (mn), .int .i64 (wrap64 (mn - 1))]⟩
  · go_wp2_with fail
    refine (raw_any _ _ _ _ _ HE3.dr.cur).mono ?_
    rintro e w5 ⟨⟨y, rfl, hy0, hy1⟩, D5⟩
    have HE5 := HE3.draw D5
    have hy : I64 y := ⟨hy0, hy1⟩
    have cj := HE5.ev.cell 2 _ rfl
    have fj := HE5.ev.fz 2 (by exact Nat.le_of_ble_eq_true rfl)
    clear HE3 D5
    have HF : DX w a len cap g w.heap.size w1.heap.size [.int .i64 0, .int .i64 0, .int .i64 0, .int .i64 0, .int .i64 0] [.int .i64 (lo), .int .i64 (hi), .int .i64 (y), .int .i64 (mn), .int .i64 (mx)] (w5.setCell ⟨w1.heap.size, 2, none⟩ (.int .i64 y)) := HE5.put 2 (.int .i64 y) (by exact Nat.le_of_ble_eq_true rfl)
    go_upto_region 11 with fail
    generalize w5.setCell ⟨w1.heap.size, 2, none⟩ (.int .i64 y) = XF at HF ⊢
    have c0 := HF.ev.cell 0 _ rfl
    have r0 := HF.rs.cell 0 _ rfl
    have f0 := HF.rs.fz 0 (by exact Nat.le_of_ble_eq_true rfl)
    have c1 := HF.ev.cell 1 _ rfl
    have r1 := HF.rs.cell 1 _ rfl
    have f1 := HF.rs.fz 1 (by exact Nat.le_of_ble_eq_true rfl)
    have c2 := HF.ev.cell 2 _ rfl
    have r2 := HF.rs.cell 2 _ rfl
    have f2 := HF.rs.fz 2 (by exact Nat.le_of_ble_eq_true rfl)
    have c3 := HF.ev.cell 3 _ rfl
    have r3 := HF.rs.cell 3 _ rfl
    have f3 := HF.rs.fz 3 (by exact Nat.le_of_ble_eq_true rfl)
    have c4 := HF.ev.cell 4 _ rfl
    have r4 := HF.rs.cell 4 _ rfl
    have f4 := HF.rs.fz 4 (by exact Nat.le_of_ble_eq_true rfl)
    go_wp2_with fail
    refine bodyPost_ret (by simp only [results, Tryz.results123]; go_simp; rfl) rfl ?_
    exact ⟨⟨_, _, _, _, _, rfl, (by first | assumption | (unfold I64; omega) | exact wrap_within _ _ | exact wrap64_bd _), (by first | assumption | (unfold I64; omega) | exact wrap_within _ _ | exact wrap64_bd _), (by first | assumption | (unfold I64; omega) | exact wrap_within _ _ | exact wrap64_bd _), (by first | assumption | (unfold I64; omega) | exact wrap_within _ _ | exact wrap64_bd _), (by first | assumption | (unfold I64; omega) | exact wrap_within _ _ | exact wrap64_bd _)⟩, HF.done [.int .i64 (lo), .int .i64 (hi), .int .i64 (y), .int .i64 (mn), .int .i64 (mx)]⟩
  · go_wp2_with fail
    refine (raw_any _ _ _ _ _ HE3.dr.cur).mono ?_
    rintro e w5 ⟨⟨y, rfl, hy0, hy1⟩, D5⟩
    have HE5 := HE3.draw D5
    have hy : I64 y := ⟨hy0, hy1⟩
    have cj := HE5.ev.cell 4 _ rfl
    have fj := HE5.ev.fz 4 (by exact Nat.le_of_ble_eq_true rfl)
    clear HE3 D5
    have HF : DX w a len cap g w.heap.size w1.heap.size [.int .i64 0, .int .i64 0, .int .i64 0, .int .i64 0, .int .i64 0] [.int .i64 (lo), .int .i64 (hi), .int .i64 (st), .int .i64 (mn), .int .i64 (y)] (w5.setCell ⟨w1.heap.size, 4, none⟩ (.int .i64 y)) := HE5.put 4 (.int .i64 y) (by exact Nat.le_of_ble_eq_true rfl)
    go_upto_region 11 with fail
    generalize w5.setCell ⟨w1.heap.size, 4, none⟩ (.int .i64 y) = XF at HF ⊢
    have c0 := HF.ev.cell 0 _ rfl
    have r0 := HF.rs.cell 0 _ rfl
    have f0 := HF.rs.fz 0 (by exact Nat.le_of_ble_eq_true rfl)
    have c1 := HF.ev.cell 1 _ rfl
    have r1 := HF.rs.cell 1 _ rfl
    have f1 := HF.rs.fz 1 (by exact Nat.le_of_ble_eq_true rfl)
    have c2 := HF.ev.cell 2 _ rfl
    have r2 := HF.rs.cell 2 _ rfl
    have f2 := HF.rs.fz 2 (by exact Nat.le_of_ble_eq_true rfl)
    have c3 := HF.ev.cell 3 _ rfl
    have r3 := HF.rs.cell 3 _ rfl
    have f3 := HF.rs.fz 3 (by exact Nat.le_of_ble_eq_true rfl)
    have c4 := HF.ev.cell 4 _ rfl
    have r4 := HF.rs.cell 4 _ rfl
    have f4 := HF.rs.fz 4 (by exact Nat.le_of_ble_eq_true rfl)
    go_wp2_with fail
    refine bodyPost_ret (by simp only [results, Tryz.results123]; go_simp; rfl) rfl ?_
    exact ⟨⟨_, _, _, _, _, rfl, (by first | assumption | (unfold I64; omega) | exact wrap_within _ _ | exact wrap64_bd _), (by first | assumption | (unfold I64; omega) | exact wrap_within _ _ | exact wrap64_bd _), (by first | assumption | (unfold I64; omega) | exact wrap_within _ _ | exact wrap64_bd _), (by first | assumption | (unfold I64; omega) | exact wrap_within _ _ | exact wrap64_bd _), (by first | assumption | (unfold I64; omega) | exact wrap_within _ _ | exact wrap64_bd _)⟩, HF.done [.int .i64 (lo), .int .i64 (hi), .int .i64 (st), .int .i64 (mn), .int .i64 (y)]⟩
  · skip
    have HF : DX w a len cap g w.heap.size w1.heap.size [.int .i64 0, .int .i64 0, .int .i64 0, .int .i64 0, .int .i64 0] [.int .i64 (lo), .int .i64 (hi), .int .i64 (st), .int .i64 (mn), .int .i64 (mx)] (w3) := HE3
    go_upto_region 11 with fail
    have c0 := HF.ev.cell 0 _ rfl
    have r0 := HF.rs.cell 0 _ rfl
    have f0 := HF.rs.fz 0 (by exact Nat.le_of_ble_eq_true rfl)
    have c1 := HF.ev.cell 1 _ rfl
    have r1 := HF.rs.cell 1 _ rfl
    have f1 := HF.rs.fz 1 (by exact Nat.le_of_ble_eq_true rfl)
    have c2 := HF.ev.cell 2 _ rfl
    have r2 := HF.rs.cell 2 _ rfl
    have f2 := HF.rs.fz 2 (by exact Nat.le_of_ble_eq_true rfl)
    have c3 := HF.ev.cell 3 _ rfl
    have r3 := HF.rs.cell 3 _ rfl
    have f3 := HF.rs.fz 3 (by exact Nat.le_of_ble_eq_true rfl)
    have c4 := HF.ev.cell 4 _ rfl
    have r4 := HF.rs.cell 4 _ rfl
    have f4 := HF.rs.fz 4 (by exact Nat.le_of_ble_eq_true rfl)
    go_wp2_with fail
    refine bodyPost_ret (by simp only [results, Tryz.results123]; go_simp; rfl) rfl ?_
    exact ⟨⟨_, _, _, _, _, rfl, (by first | assumption | (unfold I64; omega) | exact wrap_within _ _ | exact wrap64_bd _), (by first | assumption | (unfold I64; omega) | exact wrap_within _ _ | exact wrap64_bd _), (by first | assumption | (unfold I64; omega) | exact wrap_within _ _ | exact wrap64_bd _), (by first | assumption | (unfold I64; omega) | exact wrap_within _ _ | exact wrap64_bd _), (by first | assumption | (unfold I64; omega) | exact wrap_within _ _ | exact wrap64_bd _)⟩, HF.done [.int .i64 (lo), .int .i64 (hi), .int .i64 (st), .int .i64 (mn), .int .i64 (mx)]⟩

theorem Bx.keepB {w w' : World} {B b : Nat} {L : List Value} (h : Bx w b L) (hb : Below B w w') (hlt : b < B) : Bx w' b L := by
  have hk := hb.block b hlt
  exact ⟨fun j v hj => by rw [World.cell?_of_block (w := w) (a := ⟨b, 0 + j, none⟩) hk]; exact h.at_ j v hj, fun j hj => by
    have := h.th j hj
    rw [World.cell?_of_block (w := w) (a := ⟨b, 0 + j, none⟩) hk, World.frozen?_of_block (w := w) (a := ⟨b, 0 + j, none⟩) hk]
    exact this, h.ne⟩
theorem Bx.set1 {w : World} {b : Nat} {L vs : List Value} (h : Bx w b L) (hl : vs.length = L.length) : Bx (w.setCells b 0 vs) b vs := by
  have := h.set 0 vs (by omega)
  have e : putL L 0 vs = vs := by
    unfold putL
    rw [List.drop_eq_nil_of_le (by omega)]
    simp
  rwa [e] at this
theorem Drew.setCells {w : World} {a : Option Addr} {len cap g b : Nat} (hb : w.heap.size ≤ b) : ∀ (vs : List Value) (o : Nat) (W : World), Drew w a len cap g W → Drew w a len cap g (W.setCells b o vs)
  | [], o, W, h => h
  | v :: vs, o, W, h => Drew.setCells hb vs (o + 1) _ (h.setCell hb v)
theorem grown_setsS (b : Nat) : ∀ (vs : List Value) (o : Nat) (W : World), W.grownBy (W.setCells b o vs) (some b)
  | [], o, W => World.grownBy.refl _ _
  | v :: vs, o, W => grown_trans (grown_setCell W b o v) (grown_setsS b vs (o + 1) _)
theorem OwnI.keepG {w w' : World} {B g : Nat} {v : Value} {xs : List Int} (h : OwnI w B v xs) (hg : w.grownBy w' (some g)) (hne : g < B) : OwnI w' B v xs := by
  refine World.ownsRow.kept h hg (.inr ?_)
  intro e
  have := (h.lt g e).1
  omega
theorem OwnI.keepE {w w' : World} {B g : Nat} {v : Value} {xs : List Int} (h : OwnI w B v xs) (hg : w.grownBy w' (some g)) (hne : v.ownBlock ≠ some g) : OwnI w' B v xs := World.ownsRow.kept h hg (.inr hne)
theorem OwnI.form2 {w : World} {B : Nat} {v : Value} {xs : List Int} (h : OwnI w B v xs) : ∃ a c, v = .slice a xs.length c ∧ xs.length ≤ c := by
  rcases h.2 with ⟨h1, h2⟩ | ⟨g, cap, cur, h1, _, _, h3, _⟩
  · exact ⟨none, 0, by rw [h1, h2], by omega⟩
  · exact ⟨_, cap, h1, h3⟩
def drawnStep (w : World) (a : Option Addr) (len cap g : Nat) (e : Ending) (w' : World) : Prop :=
  (∃ (s : St) (ka : Option Addr) (kc : Nat), e = .returned (.agg (s.row (.slice ka s.keep.length kc)).toArray) ∧ OwnI w' w.heap.size (.slice ka s.keep.length kc) s.keep ∧ s.keep.length ≤ 6 ∧ (∀ n ∈ s.keep, I64 n)) ∧ Drew w a len cap g w'
theorem retStep {w : World} {b : Nat} {L : List Value} (h : Bx w b L) (hn : L.length = 14) : (loadVar 79 ⟨b, 0, none⟩).run Tryz.prog w = .ok (.agg L.toArray) w := run_load_row unStp infStp h hn

set_option maxRecDepth 100000 in
set_option maxHeartbeats 6400000 in
theorem l12Step_any (a : Option Addr) (len cap g : Nat) (w : World) (C0 : Cur w a len cap g) : Calls Tryz.prog 120 #[.pointer (some ⟨g, 0, none⟩)] w fun e w' => drawnStep w a len cap g e w' := by
  unfold drawnStep
  have hg := C0.lt
  go_enter Tryz.func120, Tryz.ntmps120
  go_upto_region 1 with fail
  have R0 : Bx (w.alloc (.cells #[.int .i64 0, .int .i64 0, .int .i64 0, .int .i64 0, .int .i64 0, .int .i64 0, .int .i64 0, .bool false, .slice none 0 0, .int .i64 0, .int .i64 0, .int .i64 0, .int .i64 0, .int .i64 0] 79)) w.heap.size [.int .i64 0, .int .i64 0, .int .i64 0, .int .i64 0, .int .i64 0, .int .i64 0, .int .i64 0, .bool false, .slice none 0 0, .int .i64 0, .int .i64 0, .int .i64 0, .int .i64 0, .int .i64 0] := Bx.new _ _ _ [.int .i64 0, .int .i64 0, .int .i64 0, .int .i64 0, .int .i64 0, .int .i64 0, .int .i64 0, .bool false, .slice none 0 0, .int .i64 0, .int .i64 0, .int .i64 0, .int .i64 0, .int .i64 0] rfl (by exact Nat.zero_lt_succ _) _ rfl
  have D0 : Drew w a len cap g (w.alloc (.cells #[.int .i64 0, .int .i64 0, .int .i64 0, .int .i64 0, .int .i64 0, .int .i64 0, .int .i64 0, .bool false, .slice none 0 0, .int .i64 0, .int .i64 0, .int .i64 0, .int .i64 0, .int .i64 0] 79)) := (Drew.refl C0).alloc _
  generalize w.alloc (.cells #[.int .i64 0, .int .i64 0, .int .i64 0, .int .i64 0, .int .i64 0, .int .i64 0, .int .i64 0, .bool false, .slice none 0 0, .int .i64 0, .int .i64 0, .int .i64 0, .int .i64 0, .int .i64 0] 79) = X0 at R0 D0 ⊢
  go_wp2_with fail
  refine (below_any _ _ _ _ 24 _ D0.cur).mono ?_
  rintro e w1 ⟨⟨x, rfl, hx0, hx1⟩, D1⟩
  have hx2 := hx1 (by omega)
  replace R0 := R0.drawn R0.ne D1.grown (by omega)
  replace D0 := D0.trans D1
  clear D1 hx1
  have hz1 := R0.lt
  rcases (show x < 2 ∨ x = 2 ∨ x = 3 ∨ x = 4 ∨ x = 5 ∨ 5 < x by omega) with hx | rfl | rfl | rfl | rfl | hx
  · go_wp2_with ((show Go.wpList _ _ _ ((Go.Oper.mk _ (Go.Op.store 79 _ _) _ _ _ _) :: _) _ _); refine wpList_store_row infStp rfl _ _ rfl (w.heap.size) 0 [.int .i64 2, .int .i64 0, .int .i64 0, .int .i64 0, .int .i64 0, .int .i64 0, .int .i64 0, .bool false, .slice none 0 0, .int .i64 0, .int .i64 0, .int .i64 0, .int .i64 0, .int .i64 0] rfl rfl (R0.there 0 14 (by exact Nat.le_of_ble_eq_true rfl)) rfl (fun v hv => by simp only [List.mem_cons, List.not_mem_nil, or_false] at hv; rcases hv with rfl | rfl | rfl | rfl | rfl | rfl | rfl | rfl | rfl | rfl | rfl | rfl | rfl | rfl <;> rfl) ?_)
    have hF := R0.set1 (vs := [.int .i64 2, .int .i64 0, .int .i64 0, .int .i64 0, .int .i64 0, .int .i64 0, .int .i64 0, .bool false, .slice none 0 0, .int .i64 0, .int .i64 0, .int .i64 0, .int .i64 0, .int .i64 0]) rfl
    have hL := retStep hF rfl
    refine bodyPost_ret (v := .agg #[.int .i64 2, .int .i64 0, .int .i64 0, .int .i64 0, .int .i64 0, .int .i64 0, .int .i64 0, .bool false, .slice none 0 0, .int .i64 0, .int .i64 0, .int .i64 0, .int .i64 0, .int .i64 0]) (by simp only [results, Tryz.results120, Act.put, List.setIfInBounds_toArray, List.set_cons_zero, List.set_cons_succ]; simp [hL, asAddr]) rfl ?_
    exact ⟨⟨({ St.zero with kind := 2 } : St), _, _, rfl, World.ownsRow_nil _ _ _ _, Nat.zero_le _, fun n hn => by cases hn⟩, D0.setCells (Nat.le_refl _) _ _ _⟩
  · go_wp2_with fail
    refine (below_any _ _ _ _ 6 _ (D0.alloc _).cur).mono ?_
    rintro e w3 ⟨⟨n, rfl, hn0, hn1⟩, D3⟩
    have hn2 := hn1 (by omega)
    have O0 : OwnI (w1.alloc (.cells #[] 3)) w1.heap.size (.slice (some ⟨w1.heap.size, 0, none⟩) 0 0) [] := OwnI.made w1 _ (Nat.le_refl _)
    have O3 := O0.keepG D3.grown D0.cur.lt
    have R3 := (R0.alloc (.cells #[] 3)).drawn R0.ne D3.grown (by omega)
    have E3 := (D0.alloc (.cells #[] 3)).trans D3
    have B3 : w1.heap.size ≤ w3.heap.size := by have := D3.size; simp at this; omega
    clear O0 D3 hn1
    go_wp2
    go_loopw [4, 5] (fun v i wr => ∃ (k : Nat) (ks : List Int), i = .int .i64 k ∧ ks.length + k ≤ 5 ∧ OwnI wr w1.heap.size v ks ∧ (∀ z ∈ ks, I64 z) ∧ Drew w a len cap g wr ∧ Bx wr w.heap.size [.int .i64 0, .int .i64 0, .int .i64 0, .int .i64 0, .int .i64 0, .int .i64 0, .int .i64 0, .bool false, .slice none 0 0, .int .i64 0, .int .i64 0, .int .i64 0, .int .i64 0, .int .i64 0] ∧ w1.heap.size ≤ wr.heap.size) (fun _ i _ => (intOf i).toNat)
    case atStart => exact ⟨n.toNat, [], by rw [Int.toNat_of_nonneg hn0], by simp; omega, O3, (by simp), E3, R3, B3⟩
    case round =>
      obtain ⟨k, ks, rfl, hk, own, hks, D, R, hB⟩ := hrel
      clear O3 E3 R3 B3
      have HKS := Lib.hid hks
      clear hks
      by_cases hk0 : 0 < k
      · go_wp2_with fail
        have DA := D.alloc (.cells #[.int .i64 0, .int .i64 128, .int .i64 128, .int .i64 127, .int .i64 60] 3)
        refine (below_any _ _ _ _ 5 _ DA.cur).mono ?_
        rintro e w5 ⟨⟨y, rfl, hy0, hy1⟩, D5⟩
        have hy2 := hy1 (by omega)
        have ng : ¬ wr.heap.size = g := by have := D.cur.lt; omega
        have own5 := (own.alloc (.cells #[.int .i64 0, .int .i64 128, .int .i64 128, .int .i64 127, .int .i64 60] 3)).keepG D5.grown (by have := D0.cur.lt; omega)
        have R5 := (R.alloc (.cells #[.int .i64 0, .int .i64 128, .int .i64 128, .int .i64 127, .int .i64 60] 3)).drawn R.ne D5.grown (by omega)
        have E5 := DA.trans D5
        have B5 : w1.heap.size ≤ w5.heap.size := by have := D5.size; simp at this; omega
        have cc := fun o => (Drew.rules D5).1 wr.heap.size o (by simp) ng
        rcases (show y = 0 ∨ y = 1 ∨ y = 2 ∨ y = 3 ∨ y = 4 by omega) with rfl | rfl | rfl | rfl | rfl
        · have cy : w5.cell? ⟨wr.heap.size, 0, none⟩ = some (.int .i64 0) := by rw [cc]; simp [go_sem]
          clear cc
          go_wp2_with (at_builtin; refine wpList_append_int rfl _ _ rfl w1.heap.size _ ks rfl (own5.alloc _) w5.heap.size 0 rfl (new_cell0 _ _ _) (by omega) (Nat.le_trans B5 (size_alloc_le _ _)) ?_)
          intro v7 w7 own7 hb7
          have R7 := (R5.alloc (.cells #[.int .i64 0] 3)).keepB hb7 hz1
          have E7 := Drew.own (E5.alloc (.cells #[.int .i64 0] 3)) hb7 D0.size
          have B7 : w1.heap.size ≤ w7.heap.size := by have := hb7.size; simp at this; omega
          have hks7 : ∀ z ∈ ks ++ [(0 : Int)], I64 z := fun z hz => by
            rcases List.mem_append.1 hz with hz | hz
            · exact HKS.out z hz
            · rw [List.mem_singleton] at hz
              subst hz
              unfold I64
              omega
          have HK7 := Lib.hid hks7
          clear hks7
          go_wp2
          go_roundw
          case rel => exact ⟨k - 1, ks ++ [0], by go_num, by rw [List.length_append, List.length_singleton]; omega, own7, HK7.out, E7, R7, B7⟩
          case measure => simp only [intOf]; omega
        · have cy : w5.cell? ⟨wr.heap.size, 1, none⟩ = some (.int .i64 128) := by rw [cc]; simp [go_sem]
          clear cc
          go_wp2_with (at_builtin; refine wpList_append_int rfl _ _ rfl w1.heap.size _ ks rfl (own5.alloc _) w5.heap.size 128 rfl (new_cell0 _ _ _) (by omega) (Nat.le_trans B5 (size_alloc_le _ _)) ?_)
          intro v7 w7 own7 hb7
          have R7 := (R5.alloc (.cells #[.int .i64 128] 3)).keepB hb7 hz1
          have E7 := Drew.own (E5.alloc (.cells #[.int .i64 128] 3)) hb7 D0.size
          have B7 : w1.heap.size ≤ w7.heap.size := by have := hb7.size; simp at this; omega
          have hks7 : ∀ z ∈ ks ++ [(128 : Int)], I64 z := fun z hz => by
            rcases List.mem_append.1 hz with hz | hz
            · exact HKS.out z hz
            · rw [List.mem_singleton] at hz
              subst hz
              unfold I64
              omega
          have HK7 := Lib.hid hks7
          clear hks7
          go_wp2
          go_roundw
          case rel => exact ⟨k - 1, ks ++ [128], by go_num, by rw [List.length_append, List.length_singleton]; omega, own7, HK7.out, E7, R7, B7⟩
          case measure => simp only [intOf]; omega
        · have cy : w5.cell? ⟨wr.heap.size, 2, none⟩ = some (.int .i64 128) := by rw [cc]; simp [go_sem]
          clear cc
          go_wp2_with (at_builtin; refine wpList_append_int rfl _ _ rfl w1.heap.size _ ks rfl (own5.alloc _) w5.heap.size 128 rfl (new_cell0 _ _ _) (by omega) (Nat.le_trans B5 (size_alloc_le _ _)) ?_)
          intro v7 w7 own7 hb7
          have R7 := (R5.alloc (.cells #[.int .i64 128] 3)).keepB hb7 hz1
          have E7 := Drew.own (E5.alloc (.cells #[.int .i64 128] 3)) hb7 D0.size
          have B7 : w1.heap.size ≤ w7.heap.size := by have := hb7.size; simp at this; omega
          have hks7 : ∀ z ∈ ks ++ [(128 : Int)], I64 z := fun z hz => by
            rcases List.mem_append.1 hz with hz | hz
            · exact HKS.out z hz
            · rw [List.mem_singleton] at hz
              subst hz
              unfold I64
              omega
          have HK7 := Lib.hid hks7
          clear hks7
          go_wp2
          go_roundw
          case rel => exact ⟨k - 1, ks ++ [128], by go_num, by rw [List.length_append, List.length_singleton]; omega, own7, HK7.out, E7, R7, B7⟩
          case measure => simp only [intOf]; omega
        · have cy : w5.cell? ⟨wr.heap.size, 3, none⟩ = some (.int .i64 127) := by rw [cc]; simp [go_sem]
          clear cc
          go_wp2_with (at_builtin; refine wpList_append_int rfl _ _ rfl w1.heap.size _ ks rfl (own5.alloc _) w5.heap.size 127 rfl (new_cell0 _ _ _) (by omega) (Nat.le_trans B5 (size_alloc_le _ _)) ?_)
          intro v7 w7 own7 hb7
          have R7 := (R5.alloc (.cells #[.int .i64 127] 3)).keepB hb7 hz1
          have E7 := Drew.own (E5.alloc (.cells #[.int .i64 127] 3)) hb7 D0.size
          have B7 : w1.heap.size ≤ w7.heap.size := by have := hb7.size; simp at this; omega
          have hks7 : ∀ z ∈ ks ++ [(127 : Int)], I64 z := fun z hz => by
            rcases List.mem_append.1 hz with hz | hz
            · exact HKS.out z hz
            · rw [List.mem_singleton] at hz
              subst hz
              unfold I64
              omega
          have HK7 := Lib.hid hks7
          clear hks7
          go_wp2
          go_roundw
          case rel => exact ⟨k - 1, ks ++ [127], by go_num, by rw [List.length_append, List.length_singleton]; omega, own7, HK7.out, E7, R7, B7⟩
          case measure => simp only [intOf]; omega
        · have cy : w5.cell? ⟨wr.heap.size, 4, none⟩ = some (.int .i64 60) := by rw [cc]; simp [go_sem]
          clear cc
          go_wp2_with (at_builtin; refine wpList_append_int rfl _ _ rfl w1.heap.size _ ks rfl (own5.alloc _) w5.heap.size 60 rfl (new_cell0 _ _ _) (by omega) (Nat.le_trans B5 (size_alloc_le _ _)) ?_)
          intro v7 w7 own7 hb7
          have R7 := (R5.alloc (.cells #[.int .i64 60] 3)).keepB hb7 hz1
          have E7 := Drew.own (E5.alloc (.cells #[.int .i64 60] 3)) hb7 D0.size
          have B7 : w1.heap.size ≤ w7.heap.size := by have := hb7.size; simp at this; omega
          have hks7 : ∀ z ∈ ks ++ [(60 : Int)], I64 z := fun z hz => by
            rcases List.mem_append.1 hz with hz | hz
            · exact HKS.out z hz
            · rw [List.mem_singleton] at hz
              subst hz
              unfold I64
              omega
          have HK7 := Lib.hid hks7
          clear hks7
          go_wp2
          go_roundw
          case rel => exact ⟨k - 1, ks ++ [60], by go_num, by rw [List.length_append, List.length_singleton]; omega, own7, HK7.out, E7, R7, B7⟩
          case measure => simp only [intOf]; omega
      · have e : k = 0 := by omega
        subst e
        obtain ⟨va, vc, rfl, hvc⟩ := own.form2
        have hnb : (Value.slice va ks.length vc).ownBlock ≠ some w.heap.size := fun e => by have := (own.lt _ e).1; omega
        go_wp2_with ((show Go.wpList _ _ _ ((Go.Oper.mk _ (Go.Op.store 79 _ _) _ _ _ _) :: _) _ _); refine wpList_store_row infStp rfl _ _ rfl (w.heap.size) 0 [.int .i64 3, .int .i64 0, .int .i64 0, .int .i64 0, .int .i64 0, .int .i64 0, .int .i64 0, .bool false, .slice va ks.length vc, .int .i64 0, .int .i64 0, .int .i64 0, .int .i64 0, .int .i64 0] rfl rfl (R.there 0 14 (by exact Nat.le_of_ble_eq_true rfl)) rfl (fun v hv => by simp only [List.mem_cons, List.not_mem_nil, or_false] at hv; rcases hv with rfl | rfl | rfl | rfl | rfl | rfl | rfl | rfl | rfl | rfl | rfl | rfl | rfl | rfl <;> rfl) ?_)
        have own9 := OwnI.leB (OwnI.keepE own (grown_setsS w.heap.size [.int .i64 3, .int .i64 0, .int .i64 0, .int .i64 0, .int .i64 0, .int .i64 0, .int .i64 0, .bool false, .slice va ks.length vc, .int .i64 0, .int .i64 0, .int .i64 0, .int .i64 0, .int .i64 0] 0 wr) hnb) D0.size
        have hF := R.set1 (vs := [.int .i64 3, .int .i64 0, .int .i64 0, .int .i64 0, .int .i64 0, .int .i64 0, .int .i64 0, .bool false, .slice va ks.length vc, .int .i64 0, .int .i64 0, .int .i64 0, .int .i64 0, .int .i64 0]) rfl
        have hL := retStep hF rfl
        refine bodyPost_ret (v := .agg #[.int .i64 3, .int .i64 0, .int .i64 0, .int .i64 0, .int .i64 0, .int .i64 0, .int .i64 0, .bool false, .slice va ks.length vc, .int .i64 0, .int .i64 0, .int .i64 0, .int .i64 0, .int .i64 0]) (by simp only [results, Tryz.results120, Act.put, List.setIfInBounds_toArray, List.set_cons_zero, List.set_cons_succ]; simp [hL, asAddr]) rfl ?_
        exact ⟨⟨({ St.zero with kind := 3, keep := ks } : St), _, _, rfl, own9, by show ks.length ≤ 6; omega, HKS.out⟩, D.setCells (Nat.le_refl _) _ _ _⟩
  · go_wp2_with ((show Go.wpList _ _ _ ((Go.Oper.mk _ (Go.Op.store 79 _ _) _ _ _ _) :: _) _ _); refine wpList_store_row infStp rfl _ _ rfl (w.heap.size) 0 [.int .i64 4, .int .i64 0, .int .i64 0, .int .i64 0, .int .i64 0, .int .i64 0, .int .i64 0, .bool false, .slice none 0 0, .int .i64 0, .int .i64 0, .int .i64 0, .int .i64 0, .int .i64 0] rfl rfl (R0.there 0 14 (by exact Nat.le_of_ble_eq_true rfl)) rfl (fun v hv => by simp only [List.mem_cons, List.not_mem_nil, or_false] at hv; rcases hv with rfl | rfl | rfl | rfl | rfl | rfl | rfl | rfl | rfl | rfl | rfl | rfl | rfl | rfl <;> rfl) ?_)
    have hF := R0.set1 (vs := [.int .i64 4, .int .i64 0, .int .i64 0, .int .i64 0, .int .i64 0, .int .i64 0, .int .i64 0, .bool false, .slice none 0 0, .int .i64 0, .int .i64 0, .int .i64 0, .int .i64 0, .int .i64 0]) rfl
    have hL := retStep hF rfl
    refine bodyPost_ret (v := .agg #[.int .i64 4, .int .i64 0, .int .i64 0, .int .i64 0, .int .i64 0, .int .i64 0, .int .i64 0, .bool false, .slice none 0 0, .int .i64 0, .int .i64 0, .int .i64 0, .int .i64 0, .int .i64 0]) (by simp only [results, Tryz.results120, Act.put, List.setIfInBounds_toArray, List.set_cons_zero, List.set_cons_succ]; simp [hL, asAddr]) rfl ?_
    exact ⟨⟨({ St.zero with kind := 4 } : St), _, _, rfl, World.ownsRow_nil _ _ _ _, Nat.zero_le _, fun n hn => by cases hn⟩, D0.setCells (Nat.le_refl _) _ _ _⟩
  · go_wp2_with ((show Go.wpList _ _ _ ((Go.Oper.mk _ (Go.Op.store 79 _ _) _ _ _ _) :: _) _ _); refine wpList_store_row infStp rfl _ _ rfl (w.heap.size) 0 [.int .i64 4, .int .i64 0, .int .i64 0, .int .i64 0, .int .i64 0, .int .i64 0, .int .i64 0, .bool false, .slice none 0 0, .int .i64 0, .int .i64 0, .int .i64 0, .int .i64 0, .int .i64 0] rfl rfl (R0.there 0 14 (by exact Nat.le_of_ble_eq_true rfl)) rfl (fun v hv => by simp only [List.mem_cons, List.not_mem_nil, or_false] at hv; rcases hv with rfl | rfl | rfl | rfl | rfl | rfl | rfl | rfl | rfl | rfl | rfl | rfl | rfl | rfl <;> rfl) ?_)
    have hF := R0.set1 (vs := [.int .i64 4, .int .i64 0, .int .i64 0, .int .i64 0, .int .i64 0, .int .i64 0, .int .i64 0, .bool false, .slice none 0 0, .int .i64 0, .int .i64 0, .int .i64 0, .int .i64 0, .int .i64 0]) rfl
    have hL := retStep hF rfl
    refine bodyPost_ret (v := .agg #[.int .i64 4, .int .i64 0, .int .i64 0, .int .i64 0, .int .i64 0, .int .i64 0, .int .i64 0, .bool false, .slice none 0 0, .int .i64 0, .int .i64 0, .int .i64 0, .int .i64 0, .int .i64 0]) (by simp only [results, Tryz.results120, Act.put, List.setIfInBounds_toArray, List.set_cons_zero, List.set_cons_succ]; simp [hL, asAddr]) rfl ?_
    exact ⟨⟨({ St.zero with kind := 4 } : St), _, _, rfl, World.ownsRow_nil _ _ _ _, Nat.zero_le _, fun n hn => by cases hn⟩, D0.setCells (Nat.le_refl _) _ _ _⟩
  · go_wp2_with fail
    refine (l10Rule_any _ _ _ _ _ D0.cur).mono ?_
    rintro e w3 ⟨⟨lo, hi, st, mn, mx, rfl, hlo, hhi, hst, hmn, hmx⟩, D3⟩
    have R3 := R0.drawn R0.ne D3.grown (by omega)
    have E3 := D0.trans D3
    go_wp2_with ((show Go.wpList _ _ _ ((Go.Oper.mk _ (Go.Op.store 79 _ _) _ _ _ _) :: _) _ _); refine wpList_store_row infStp rfl _ _ rfl (w.heap.size) 0 [.int .i64 5, .int .i64 0, .int .i64 0, .int .i64 0, .int .i64 0, .int .i64 0, .int .i64 0, .bool false, .slice none 0 0, .int .i64 lo, .int .i64 hi, .int .i64 st, .int .i64 mn, .int .i64 mx] rfl rfl (R3.there 0 14 (by exact Nat.le_of_ble_eq_true rfl)) rfl (fun v hv => by simp only [List.mem_cons, List.not_mem_nil, or_false] at hv; rcases hv with rfl | rfl | rfl | rfl | rfl | rfl | rfl | rfl | rfl | rfl | rfl | rfl | rfl | rfl <;> rfl) ?_)
    have hF := R3.set1 (vs := [.int .i64 5, .int .i64 0, .int .i64 0, .int .i64 0, .int .i64 0, .int .i64 0, .int .i64 0, .bool false, .slice none 0 0, .int .i64 lo, .int .i64 hi, .int .i64 st, .int .i64 mn, .int .i64 mx]) rfl
    have hL := retStep hF rfl
    refine bodyPost_ret (v := .agg #[.int .i64 5, .int .i64 0, .int .i64 0, .int .i64 0, .int .i64 0, .int .i64 0, .int .i64 0, .bool false, .slice none 0 0, .int .i64 lo, .int .i64 hi, .int .i64 st, .int .i64 mn, .int .i64 mx]) (by simp only [results, Tryz.results120, Act.put, List.setIfInBounds_toArray, List.set_cons_zero, List.set_cons_succ]; simp [hL, asAddr]) rfl ?_
    exact ⟨⟨({ St.zero with kind := 5, lo := lo, hi := hi, step := st, mn := mn, mx := mx } : St), _, _, rfl, World.ownsRow_nil _ _ _ _, Nat.zero_le _, fun n hn => by cases hn⟩, E3.setCells (Nat.le_refl _) _ _ _⟩
  · go_wp2_with fail
    refine (l04Draw_any _ _ _ _ _ D0.cur).mono ?_
    rintro e w3 ⟨⟨k, key, ch, too, amt, fee, yes, rfl, hk, hkey, hch, htoo, hamt, hfee⟩, D3⟩
    have R3 := R0.drawn R0.ne D3.grown (by omega)
    have E3 := D0.trans D3
    go_wp2_with ((show Go.wpList _ _ _ ((Go.Oper.mk _ (Go.Op.store 79 _ _) _ _ _ _) :: _) _ _); refine wpList_store_row infStp rfl _ _ rfl (w.heap.size) 0 [.int .i64 1, .int .i64 k, .int .i64 key, .int .i64 ch, .int .i64 too, .int .i64 amt, .int .i64 fee, .bool yes, .slice none 0 0, .int .i64 0, .int .i64 0, .int .i64 0, .int .i64 0, .int .i64 0] rfl rfl (R3.there 0 14 (by exact Nat.le_of_ble_eq_true rfl)) rfl (fun v hv => by simp only [List.mem_cons, List.not_mem_nil, or_false] at hv; rcases hv with rfl | rfl | rfl | rfl | rfl | rfl | rfl | rfl | rfl | rfl | rfl | rfl | rfl | rfl <;> rfl) ?_)
    have hF := R3.set1 (vs := [.int .i64 1, .int .i64 k, .int .i64 key, .int .i64 ch, .int .i64 too, .int .i64 amt, .int .i64 fee, .bool yes, .slice none 0 0, .int .i64 0, .int .i64 0, .int .i64 0, .int .i64 0, .int .i64 0]) rfl
    have hL := retStep hF rfl
    refine bodyPost_ret (v := .agg #[.int .i64 1, .int .i64 k, .int .i64 key, .int .i64 ch, .int .i64 too, .int .i64 amt, .int .i64 fee, .bool yes, .slice none 0 0, .int .i64 0, .int .i64 0, .int .i64 0, .int .i64 0, .int .i64 0]) (by simp only [results, Tryz.results120, Act.put, List.setIfInBounds_toArray, List.set_cons_zero, List.set_cons_succ]; simp [hL, asAddr]) rfl ?_
    exact ⟨⟨({ St.zero with kind := 1, ev := ⟨k, key, ch, too, amt, fee, yes⟩ } : St), _, _, rfl, World.ownsRow_nil _ _ _ _, Nat.zero_le _, fun n hn => by cases hn⟩, E3.setCells (Nat.le_refl _) _ _ _⟩

theorem Bx.grownO {w w' : World} {b : Nat} {r : Option Nat} {L : List Value} (h : Bx w b L) (hg : w.grownBy w' r) (hne : r ≠ some b) : Bx w' b L := by
  have hlt := h.lt
  have hk := hg.block b hlt (fun e => hne e.symm)
  exact ⟨fun j v hj => by rw [World.cell?_of_block (w := w) (a := ⟨b, 0 + j, none⟩) hk]; exact h.at_ j v hj, fun j hj => by
    have := h.th j hj
    rw [World.cell?_of_block (w := w) (a := ⟨b, 0 + j, none⟩) hk, World.frozen?_of_block (w := w) (a := ⟨b, 0 + j, none⟩) hk]
    exact this, h.ne⟩
theorem step_append_int_g {ops : Array Oper} {o : Oper} {a : Act} {K : Act → World → Prop} {Q : Exit → Act → World → Prop} {E : Prop} {w : World} (hgd : o.guard = none) (s x : Operand)
    (ho : o.op = .call { callee := .builtin .append, args := #[s, x], argTypes := #[39, 39] }) (B : Nat) (v : Value) (xs : List Int) (hs : a.eval s = v) (hown : OwnI w B v xs)
    (g : Nat) (y : Int) (hx : a.eval x = .slice (some ⟨g, 0, none⟩) 1 1) (hy : w.cell? ⟨g, 0, none⟩ = some (.int .i64 y)) (hlen : xs.length ≤ 1099511627776) (hB : B ≤ w.heap.size)
    (h : ∀ v' w', OwnI w' B v' (xs ++ [y]) → Below B w w' → w.grownBy w' v.ownBlock → K (a.put o.dst v') w') :
    if Region.wanted o (yielded ops a.tmps) = true then Oper.wp Tryz.prog o a w K Q else E := by
  have hw : Region.wanted o (yielded ops a.tmps) = true := by simp [Region.wanted, hgd]
  rw [if_pos hw]
  obtain ⟨i0, hi, hz0, hz1, hz2⟩ := info_parts infoInt
  refine wp_append_own w s x 39 ho B 3 i0 (.int .i64 0) 1 8 Tryz.underlying39 hi hz0 hz1 hz2 rfl (by decide) v xs.length (xs.map (Value.int .i64)) hs hown ⟨g, 0, none⟩ 1 1 [.int .i64 y] hx rfl ?_ ?_ ?_ ?_ hB ?_
  · intro j u hj
    cases j with
    | zero => simp at hj; subst hj; exact hy
    | succ j => simp at hj
  · intro u hu; simp at hu; subst hu; rfl
  · unfold maxLen; omega
  · omega
  · intro v' w' h1 h2 _
    refine h v' w' ?_ (grown_below hown h2 hB) h2
    unfold OwnI
    simpa using h1
theorem DX.grownO {w W W' : World} {a : Option Addr} {len cap g b2 b4 : Nat} {R L : List Value} {r : Option Nat} (h : DX w a len cap g b2 b4 R L W) (hg : W.grownBy W' r) (hb : Below w.heap.size W W') (h2 : r ≠ some b2) (h4 : r ≠ some b4) : DX w a len cap g b2 b4 R L W' :=
  ⟨Drew.own h.dr hb (Nat.le_refl _), h.ev.grownO hg h4, h.rs.grownO hg h2, h.ne⟩
theorem DX.sets {w W : World} {a : Option Addr} {len cap g b2 b4 : Nat} {R L : List Value} (h : DX w a len cap g b2 b4 R L W) (j : Nat) (vs : List Value) (hj : j + vs.length ≤ L.length) : DX w a len cap g b2 b4 R (putL L j vs) (W.setCells b4 j vs) :=
  ⟨h.dr.setCells h.ne.2.2.2.1 vs j W, h.ev.set j vs hj, h.rs.other b4 j vs h.ne.2.2.1, h.ne⟩
theorem OwnI.bnd {w : World} {B : Nat} {v : Value} {xs : List Int} (h : OwnI w B v xs) : ∀ k, v.ownBlock = some k → B ≤ k ∧ k < w.heap.size := fun k hk => h.lt k hk
/-- the type of a block -/
def TyB (w : World) (b : Nat) (E : TypeId) : Prop := ∃ cur, w.heap[b]? = some (.cells cur E (0, 0))
theorem TyB.lt {w : World} {b : Nat} {E : TypeId} (h : TyB w b E) : b < w.heap.size := by
  obtain ⟨c, h⟩ := h
  rcases Nat.lt_or_ge b w.heap.size with h1 | h1
  · exact h1
  · rw [Array.getElem?_eq_none h1] at h
    cases h
theorem TyB.grown {w w' : World} {b : Nat} {E : TypeId} {r : Option Nat} (h : TyB w b E) (hg : w.grownBy w' r) (hne : r ≠ some b) : TyB w' b E := by
  have hlt := h.lt
  obtain ⟨c, h⟩ := h
  exact ⟨c, (hg.block b hlt (fun e => hne e.symm)).trans h⟩
theorem TyB.sets {b : Nat} {E : TypeId} : ∀ (vs : List Value) (o : Nat) (w : World), TyB w b E → TyB (w.setCells b o vs) b E
  | [], o, w, h => h
  | v :: vs, o, w, h => by
    obtain ⟨c, h⟩ := h
    exact TyB.sets vs (o + 1) _ ⟨_, heap_setCell_same w b o c E v h⟩
theorem TyB.new (w : World) (C : Array Value) (E : TypeId) : TyB (w.alloc (.cells C E)) w.heap.size E := ⟨C, heap_alloc_new w _⟩
theorem TyB.alloc {w : World} {b : Nat} {E : TypeId} (h : TyB w b E) (o : Obj) : TyB (w.alloc o) b E := h.grown (r := none) (by have := below_alloc (Below.refl w.heap.size w) o; exact ⟨this.os, this.tape, this.output, this.size, fun k hk _ => this.block k hk⟩) (by simp)
theorem TyB.ne {w : World} {B b n sz : Nat} {E E' : TypeId} {v : Value} {cs : List Value} (h : TyB w b E) (ho : w.ownsRow B E' sz v n cs) (hE : E ≠ E') : v.ownBlock ≠ some b := fun e => by
  obtain ⟨c, h⟩ := h
  obtain ⟨c2, h2⟩ := own_ty ho b (by rw [e]; simp)
  rw [h] at h2
  simp at h2
  exact hE h2.2
theorem infRu5 : (Tryz.prog.info? 77).map (·.size) = some 5 := by kernel_rfl
theorem infEv7 : (Tryz.prog.info? 75).map (·.size) = some 7 := by kernel_rfl

set_option maxRecDepth 100000 in
set_option maxHeartbeats 6400000 in
theorem l12AnyStep_any (a : Option Addr) (len cap g : Nat) (w : World) (C0 : Cur w a len cap g) : Calls Tryz.prog 82 #[.pointer (some ⟨g, 0, none⟩)] w fun e w' =>
    (∃ (s : St) (ka : Option Addr) (kc : Nat), e = .returned (.agg (s.row (.slice ka s.keep.length kc)).toArray) ∧ OwnI w' w.heap.size (.slice ka s.keep.length kc) s.keep ∧ s.keep.length ≤ 7 ∧ (∀ n ∈ s.keep, I64 n)) ∧ Drew w a len cap g w' := by
  have hg := C0.lt
  go_enter Tryz.func82, Tryz.ntmps82
  go_upto_region 1 with fail
  have R0 : Bx (w.alloc (.cells #[.int .i64 0, .int .i64 0, .int .i64 0, .int .i64 0, .int .i64 0, .int .i64 0, .int .i64 0, .bool false, .slice none 0 0, .int .i64 0, .int .i64 0, .int .i64 0, .int .i64 0, .int .i64 0] 79)) w.heap.size [.int .i64 0, .int .i64 0, .int .i64 0, .int .i64 0, .int .i64 0, .int .i64 0, .int .i64 0, .bool false, .slice none 0 0, .int .i64 0, .int .i64 0, .int .i64 0, .int .i64 0, .int .i64 0] := Bx.new _ _ _ [.int .i64 0, .int .i64 0, .int .i64 0, .int .i64 0, .int .i64 0, .int .i64 0, .int .i64 0, .bool false, .slice none 0 0, .int .i64 0, .int .i64 0, .int .i64 0, .int .i64 0, .int .i64 0] rfl (by exact Nat.zero_lt_succ _) _ rfl
  have D0 : Drew w a len cap g (w.alloc (.cells #[.int .i64 0, .int .i64 0, .int .i64 0, .int .i64 0, .int .i64 0, .int .i64 0, .int .i64 0, .bool false, .slice none 0 0, .int .i64 0, .int .i64 0, .int .i64 0, .int .i64 0, .int .i64 0] 79)) := (Drew.refl C0).alloc _
  generalize w.alloc (.cells #[.int .i64 0, .int .i64 0, .int .i64 0, .int .i64 0, .int .i64 0, .int .i64 0, .int .i64 0, .bool false, .slice none 0 0, .int .i64 0, .int .i64 0, .int .i64 0, .int .i64 0, .int .i64 0] 79) = X0 at R0 D0 ⊢
  have hz0 := R0.lt
  go_wp2_with fail
  refine (l12Step_any _ _ _ _ _ D0.cur).mono ?_
  unfold drawnStep
  rintro e w1 ⟨⟨s, ka, kc, rfl, own, hk6, hks⟩, D1⟩
  have HKS := Lib.hid hks
  have hbk := Lib.hid own.bnd
  obtain ⟨n, hn⟩ : ∃ n, n = s.keep.length := ⟨_, rfl⟩
  rw [← hn] at own hk6 hbk ⊢
  have HN := Lib.hid hn
  have R1 := R0.drawn R0.ne D1.grown (by omega)
  have D2 := D0.trans D1
  have hz1 : X0.heap.size ≤ w1.heap.size := D1.size
  clear R0 D0 D1 hks hn
  have Q0 : Bx (w1.alloc (.cells #[.int .i64 0, .int .i64 0, .int .i64 0, .int .i64 0, .int .i64 0, .int .i64 0, .int .i64 0, .bool false, .slice none 0 0, .int .i64 0, .int .i64 0, .int .i64 0, .int .i64 0, .int .i64 0] 79)) w1.heap.size [.int .i64 0, .int .i64 0, .int .i64 0, .int .i64 0, .int .i64 0, .int .i64 0, .int .i64 0, .bool false, .slice none 0 0, .int .i64 0, .int .i64 0, .int .i64 0, .int .i64 0, .int .i64 0] := Bx.new _ _ _ [.int .i64 0, .int .i64 0, .int .i64 0, .int .i64 0, .int .i64 0, .int .i64 0, .int .i64 0, .bool false, .slice none 0 0, .int .i64 0, .int .i64 0, .int .i64 0, .int .i64 0, .int .i64 0] rfl (by exact Nat.zero_lt_succ _) _ rfl
  have hcur := D2.cur.lt
  have hDs := D2.size
  go_upto_region 2 with ((show Go.wpList _ _ _ ((Go.Oper.mk _ (Go.Op.store 79 _ _) _ _ _ _) :: _) _ _); refine wpList_store_row infStp rfl _ _ rfl (w1.heap.size) 0 [.int .i64 s.kind, .int .i64 s.ev.kind, .int .i64 s.ev.key, .int .i64 s.ev.ch, .int .i64 s.ev.to, .int .i64 s.ev.amt, .int .i64 s.ev.fee, .bool s.ev.yes, .slice ka n kc, .int .i64 s.lo, .int .i64 s.hi, .int .i64 s.step, .int .i64 s.mn, .int .i64 s.mx] rfl rfl (Q0.there 0 14 (by exact Nat.le_of_ble_eq_true rfl)) rfl (fun v hv => by simp only [List.mem_cons, List.not_mem_nil, or_false] at hv; rcases hv with rfl | rfl | rfl | rfl | rfl | rfl | rfl | rfl | rfl | rfl | rfl | rfl | rfl | rfl <;> rfl) ?_)
  have HX : DX w a len cap g w.heap.size w1.heap.size [.int .i64 0, .int .i64 0, .int .i64 0, .int .i64 0, .int .i64 0, .int .i64 0, .int .i64 0, .bool false, .slice none 0 0, .int .i64 0, .int .i64 0, .int .i64 0, .int .i64 0, .int .i64 0] [.int .i64 s.kind, .int .i64 s.ev.kind, .int .i64 s.ev.key, .int .i64 s.ev.ch, .int .i64 s.ev.to, .int .i64 s.ev.amt, .int .i64 s.ev.fee, .bool s.ev.yes, .slice ka n kc, .int .i64 s.lo, .int .i64 s.hi, .int .i64 s.step, .int .i64 s.mn, .int .i64 s.mx] ((w1.alloc (.cells #[.int .i64 0, .int .i64 0, .int .i64 0, .int .i64 0, .int .i64 0, .int .i64 0, .int .i64 0, .bool false, .slice none 0 0, .int .i64 0, .int .i64 0, .int .i64 0, .int .i64 0, .int .i64 0] 79)).setCells w1.heap.size 0 [.int .i64 s.kind, .int .i64 s.ev.kind, .int .i64 s.ev.key, .int .i64 s.ev.ch, .int .i64 s.ev.to, .int .i64 s.ev.amt, .int .i64 s.ev.fee, .bool s.ev.yes, .slice ka n kc, .int .i64 s.lo, .int .i64 s.hi, .int .i64 s.step, .int .i64 s.mn, .int .i64 s.mx]) :=
    ⟨(D2.alloc _).setCells hDs _ _ _, Q0.set1 rfl, (R1.alloc _).other _ _ _ (by omega), by omega⟩
  have OX : OwnI ((w1.alloc (.cells #[.int .i64 0, .int .i64 0, .int .i64 0, .int .i64 0, .int .i64 0, .int .i64 0, .int .i64 0, .bool false, .slice none 0 0, .int .i64 0, .int .i64 0, .int .i64 0, .int .i64 0, .int .i64 0] 79)).setCells w1.heap.size 0 [.int .i64 s.kind, .int .i64 s.ev.kind, .int .i64 s.ev.key, .int .i64 s.ev.ch, .int .i64 s.ev.to, .int .i64 s.ev.amt, .int .i64 s.ev.fee, .bool s.ev.yes, .slice ka n kc, .int .i64 s.lo, .int .i64 s.hi, .int .i64 s.step, .int .i64 s.mn, .int .i64 s.mx]) X0.heap.size (.slice ka n kc) s.keep := (own.alloc _).keepE (grown_setsS _ _ _ _) (fun e => by have := hbk.out _ e; omega)
  have TX : TyB ((w1.alloc (.cells #[.int .i64 0, .int .i64 0, .int .i64 0, .int .i64 0, .int .i64 0, .int .i64 0, .int .i64 0, .bool false, .slice none 0 0, .int .i64 0, .int .i64 0, .int .i64 0, .int .i64 0, .int .i64 0] 79)).setCells w1.heap.size 0 [.int .i64 s.kind, .int .i64 s.ev.kind, .int .i64 s.ev.key, .int .i64 s.ev.ch, .int .i64 s.ev.to, .int .i64 s.ev.amt, .int .i64 s.ev.fee, .bool s.ev.yes, .slice ka n kc, .int .i64 s.lo, .int .i64 s.hi, .int .i64 s.step, .int .i64 s.mn, .int .i64 s.mx]) w1.heap.size 79 := TyB.sets _ _ _ (TyB.new _ _ _)
  generalize (w1.alloc (.cells #[.int .i64 0, .int .i64 0, .int .i64 0, .int .i64 0, .int .i64 0, .int .i64 0, .int .i64 0, .bool false, .slice none 0 0, .int .i64 0, .int .i64 0, .int .i64 0, .int .i64 0, .int .i64 0] 79)).setCells w1.heap.size 0 [.int .i64 s.kind, .int .i64 s.ev.kind, .int .i64 s.ev.key, .int .i64 s.ev.ch, .int .i64 s.ev.to, .int .i64 s.ev.amt, .int .i64 s.ev.fee, .bool s.ev.yes, .slice ka n kc, .int .i64 s.lo, .int .i64 s.hi, .int .i64 s.step, .int .i64 s.mn, .int .i64 s.mx] = X1 at HX OX TX ⊢
  clear Q0 R1 D2 own
  go_wp2_with fail
  refine (below_any _ _ _ _ 12 _ HX.dr.cur).mono ?_
  rintro e w3 ⟨⟨x, rfl, hx0, hx1⟩, D3⟩
  have hx2 := hx1 (by omega)
  replace HX := HX.draw D3
  have hgX : g < X0.heap.size := by have := hg; omega
  have O3 := OX.keepG D3.grown hgX
  have T3 := TX.grown D3.grown (fun e => by injection e with e; omega)
  clear D3 hx1 OX
  have hDs0 : w.heap.size ≤ X0.heap.size := by omega
  rcases (show x = 0 ∨ x = 1 ∨ x = 2 ∨ x = 3 ∨ 3 < x by omega) with rfl | rfl | rfl | rfl | hx3
  · go_wp2_with fail
    refine (below_any _ _ _ _ 8 _ HX.dr.cur).mono ?_
    rintro e w5 ⟨⟨y, rfl, hy0, hy1⟩, D5⟩
    have hy2 := hy1 (by omega)
    replace HX := HX.draw D5
    have O5 := O3.keepG D5.grown hgX
    have c0 := HX.ev.cell 0 _ rfl
    have f0 := HX.ev.fz 0 (by exact Nat.le_of_ble_eq_true rfl)
    clear O3 D5 hy1
    go_upto_region 11 with fail
    have HF : DX w a len cap g w.heap.size w1.heap.size [.int .i64 0, .int .i64 0, .int .i64 0, .int .i64 0, .int .i64 0, .int .i64 0, .int .i64 0, .bool false, .slice none 0 0, .int .i64 0, .int .i64 0, .int .i64 0, .int .i64 0, .int .i64 0] [.int .i64 (y - 1), .int .i64 s.ev.kind, .int .i64 s.ev.key, .int .i64 s.ev.ch, .int .i64 s.ev.to, .int .i64 s.ev.amt, .int .i64 s.ev.fee, .bool s.ev.yes, .slice ka n kc, .int .i64 s.lo, .int .i64 s.hi, .int .i64 s.step, .int .i64 s.mn, .int .i64 s.mx] (w5.setCell ⟨w1.heap.size, 0, none⟩ (.int .i64 (y - 1))) := HX.put 0 (.int .i64 (y - 1)) (by exact Nat.zero_lt_succ _)
    have OF := O5.keepE (grown_setCell w5 w1.heap.size 0 (.int .i64 (y - 1))) (fun e => by have := hbk.out _ e; omega)
    generalize w5.setCell ⟨w1.heap.size, 0, none⟩ (.int .i64 (y - 1)) = XF at HF OF ⊢
    clear HX O5 c0 f0
    go_wp2_with (first | ((show Go.wpList _ _ _ ((Go.Oper.mk _ (Go.Op.load 79 _) _ _ _ _) :: _) _ _); refine wpList_load_row unStp infStp rfl _ rfl (w1.heap.size) 0 rfl [.int .i64 (y - 1), .int .i64 s.ev.kind, .int .i64 s.ev.key, .int .i64 s.ev.ch, .int .i64 s.ev.to, .int .i64 s.ev.amt, .int .i64 s.ev.fee, .bool s.ev.yes, .slice ka n kc, .int .i64 s.lo, .int .i64 s.hi, .int .i64 s.step, .int .i64 s.mn, .int .i64 s.mx] HF.ev.at_ rfl ?_) | ((show Go.wpList _ _ _ ((Go.Oper.mk _ (Go.Op.store 79 _ _) _ _ _ _) :: _) _ _); refine wpList_store_row infStp rfl _ _ rfl (w.heap.size) 0 [.int .i64 (y - 1), .int .i64 s.ev.kind, .int .i64 s.ev.key, .int .i64 s.ev.ch, .int .i64 s.ev.to, .int .i64 s.ev.amt, .int .i64 s.ev.fee, .bool s.ev.yes, .slice ka n kc, .int .i64 s.lo, .int .i64 s.hi, .int .i64 s.step, .int .i64 s.mn, .int .i64 s.mx] rfl rfl (HF.rs.there 0 14 (by exact Nat.le_of_ble_eq_true rfl)) rfl (fun v hv => by simp only [List.mem_cons, List.not_mem_nil, or_false] at hv; rcases hv with rfl | rfl | rfl | rfl | rfl | rfl | rfl | rfl | rfl | rfl | rfl | rfl | rfl | rfl <;> rfl) ?_))
    have hF := HF.rs.set1 (vs := [.int .i64 (y - 1), .int .i64 s.ev.kind, .int .i64 s.ev.key, .int .i64 s.ev.ch, .int .i64 s.ev.to, .int .i64 s.ev.amt, .int .i64 s.ev.fee, .bool s.ev.yes, .slice ka n kc, .int .i64 s.lo, .int .i64 s.hi, .int .i64 s.step, .int .i64 s.mn, .int .i64 s.mx]) rfl
    have hL := retStep hF rfl
    have O9 := OwnI.leB (OwnI.keepE OF (grown_setsS w.heap.size [.int .i64 (y - 1), .int .i64 s.ev.kind, .int .i64 s.ev.key, .int .i64 s.ev.ch, .int .i64 s.ev.to, .int .i64 s.ev.amt, .int .i64 s.ev.fee, .bool s.ev.yes, .slice ka n kc, .int .i64 s.lo, .int .i64 s.hi, .int .i64 s.step, .int .i64 s.mn, .int .i64 s.mx] 0 XF) (fun e => by have := (OF.bnd _ e).1; omega)) hDs0
    refine bodyPost_ret (v := .agg #[.int .i64 (y - 1), .int .i64 s.ev.kind, .int .i64 s.ev.key, .int .i64 s.ev.ch, .int .i64 s.ev.to, .int .i64 s.ev.amt, .int .i64 s.ev.fee, .bool s.ev.yes, .slice ka n kc, .int .i64 s.lo, .int .i64 s.hi, .int .i64 s.step, .int .i64 s.mn, .int .i64 s.mx]) (by simp only [results, Tryz.results82, Act.put, List.setIfInBounds_toArray, List.set_cons_zero, List.set_cons_succ]; simp [hL, asAddr]) rfl ?_
    have hn := HN.out
    subst hn
    exact ⟨⟨({ s with kind := y - 1 } : St), _, _, rfl, O9, by show s.keep.length ≤ 7; omega, HKS.out⟩, HF.dr.setCells (Nat.le_refl _) _ _ _⟩
  · go_wp2_with fail
    refine (l04Any_any _ _ _ _ _ HX.dr.cur).mono ?_
    rintro e w5 ⟨⟨k, key, ch, too, amt, fee, yes, rfl, hk, hkey, hch, htoo, hamt, hfee⟩, D5⟩
    replace HX := HX.draw D5
    have O5 := O3.keepG D5.grown hgX
    have T5 : w5.there w1.heap.size 1 7 := HX.ev.there 1 7 (by exact Nat.le_of_ble_eq_true rfl)
    clear O3 D5
    go_upto_region 11 with (first | ((show Go.wpList _ _ _ ((Go.Oper.mk _ (Go.Op.fieldAddr _ _ _) _ _ _ _) :: (Go.Oper.mk _ (Go.Op.store 75 _ _) _ _ _ _) :: _) _ _); refine wpList_plain rfl fun K hK => ?_; go_simp; refine hK _ _ ?_; clear hK) | ((show Go.wpList _ _ _ ((Go.Oper.mk _ (Go.Op.store 75 _ _) _ _ _ _) :: _) _ _); refine wpList_store_row infEv7 rfl _ _ rfl w1.heap.size 1 [.int .i64 k, .int .i64 key, .int .i64 ch, .int .i64 too, .int .i64 amt, .int .i64 fee, .bool yes] rfl rfl (T5) rfl (fun v hv => by simp only [List.mem_cons, List.not_mem_nil, or_false] at hv; rcases hv with rfl | rfl | rfl | rfl | rfl | rfl | rfl <;> rfl) ?_))
    have HF : DX w a len cap g w.heap.size w1.heap.size [.int .i64 0, .int .i64 0, .int .i64 0, .int .i64 0, .int .i64 0, .int .i64 0, .int .i64 0, .bool false, .slice none 0 0, .int .i64 0, .int .i64 0, .int .i64 0, .int .i64 0, .int .i64 0] [.int .i64 s.kind, .int .i64 k, .int .i64 key, .int .i64 ch, .int .i64 too, .int .i64 amt, .int .i64 fee, .bool yes, .slice ka n kc, .int .i64 s.lo, .int .i64 s.hi, .int .i64 s.step, .int .i64 s.mn, .int .i64 s.mx] (w5.setCells w1.heap.size 1 [.int .i64 k, .int .i64 key, .int .i64 ch, .int .i64 too, .int .i64 amt, .int .i64 fee, .bool yes]) := HX.sets 1 [.int .i64 k, .int .i64 key, .int .i64 ch, .int .i64 too, .int .i64 amt, .int .i64 fee, .bool yes] (by exact Nat.le_of_ble_eq_true rfl)
    have OF := O5.keepE (grown_setsS w1.heap.size [.int .i64 k, .int .i64 key, .int .i64 ch, .int .i64 too, .int .i64 amt, .int .i64 fee, .bool yes] 1 w5) (fun e => by have := hbk.out _ e; omega)
    generalize w5.setCells w1.heap.size 1 [.int .i64 k, .int .i64 key, .int .i64 ch, .int .i64 too, .int .i64 amt, .int .i64 fee, .bool yes] = XF at HF OF ⊢
    clear HX O5 T5
    go_wp2_with (first | ((show Go.wpList _ _ _ ((Go.Oper.mk _ (Go.Op.load 79 _) _ _ _ _) :: _) _ _); refine wpList_load_row unStp infStp rfl _ rfl (w1.heap.size) 0 rfl [.int .i64 s.kind, .int .i64 k, .int .i64 key, .int .i64 ch, .int .i64 too, .int .i64 amt, .int .i64 fee, .bool yes, .slice ka n kc, .int .i64 s.lo, .int .i64 s.hi, .int .i64 s.step, .int .i64 s.mn, .int .i64 s.mx] HF.ev.at_ rfl ?_) | ((show Go.wpList _ _ _ ((Go.Oper.mk _ (Go.Op.store 79 _ _) _ _ _ _) :: _) _ _); refine wpList_store_row infStp rfl _ _ rfl (w.heap.size) 0 [.int .i64 s.kind, .int .i64 k, .int .i64 key, .int .i64 ch, .int .i64 too, .int .i64 amt, .int .i64 fee, .bool yes, .slice ka n kc, .int .i64 s.lo, .int .i64 s.hi, .int .i64 s.step, .int .i64 s.mn, .int .i64 s.mx] rfl rfl (HF.rs.there 0 14 (by exact Nat.le_of_ble_eq_true rfl)) rfl (fun v hv => by simp only [List.mem_cons, List.not_mem_nil, or_false] at hv; rcases hv with rfl | rfl | rfl | rfl | rfl | rfl | rfl | rfl | rfl | rfl | rfl | rfl | rfl | rfl <;> rfl) ?_))
    have hF := HF.rs.set1 (vs := [.int .i64 s.kind, .int .i64 k, .int .i64 key, .int .i64 ch, .int .i64 too, .int .i64 amt, .int .i64 fee, .bool yes, .slice ka n kc, .int .i64 s.lo, .int .i64 s.hi, .int .i64 s.step, .int .i64 s.mn, .int .i64 s.mx]) rfl
    have hL := retStep hF rfl
    have O9 := OwnI.leB (OwnI.keepE OF (grown_setsS w.heap.size [.int .i64 s.kind, .int .i64 k, .int .i64 key, .int .i64 ch, .int .i64 too, .int .i64 amt, .int .i64 fee, .bool yes, .slice ka n kc, .int .i64 s.lo, .int .i64 s.hi, .int .i64 s.step, .int .i64 s.mn, .int .i64 s.mx] 0 XF) (fun e => by have := (OF.bnd _ e).1; omega)) hDs0
    refine bodyPost_ret (v := .agg #[.int .i64 s.kind, .int .i64 k, .int .i64 key, .int .i64 ch, .int .i64 too, .int .i64 amt, .int .i64 fee, .bool yes, .slice ka n kc, .int .i64 s.lo, .int .i64 s.hi, .int .i64 s.step, .int .i64 s.mn, .int .i64 s.mx]) (by simp only [results, Tryz.results82, Act.put, List.setIfInBounds_toArray, List.set_cons_zero, List.set_cons_succ]; simp [hL, asAddr]) rfl ?_
    have hn := HN.out
    subst hn
    exact ⟨⟨({ s with ev := ⟨k, key, ch, too, amt, fee, yes⟩ } : St), _, _, rfl, O9, by show s.keep.length ≤ 7; omega, HKS.out⟩, HF.dr.setCells (Nat.le_refl _) _ _ _⟩
  · have c8 := HX.ev.cell 8 _ rfl
    go_upto_region 8 with fail
    go_region_law (first
      | (go_simp; go_at_call 122; refine (raw_any _ _ _ _ _ HX.drew.dr.cur).mono ?_; rintro e w5 ⟨⟨y, rfl, hy0, hy1⟩, D5⟩; have HX5 := HX.drew.draw D5; have O5 := (OwnI.keepG (w := w3.drew) O3 D5.grown hgX); have c8 := HX5.ev.cell 8 _ rfl; have T5 := TyB.grown (w := w3.drew) T3 D5.grown (fun e => by injection e with e; omega); have z6 := HX5.ev.lt; have z5 : X0.heap.size ≤ w5.heap.size := Nat.le_trans (Nat.le_trans hz1 (Nat.le_of_lt HX.ev.lt)) D5.size; clear D5)
      | (refine step_append_int_g rfl _ _ rfl X0.heap.size _ s.keep rfl (O5.alloc _) _ y rfl (new_cell0 _ _ _) (by have := HN.out; omega) (Nat.le_trans z5 (size_alloc_le _ _)) ?_; intro v7 w7 O7 hb7 hg7; obtain ⟨KS, hKS⟩ : ∃ l, l = s.keep ++ [y] := ⟨_, rfl⟩; rw [← hKS] at O7; have HKS2 := Lib.hid hKS; clear hKS; obtain ⟨va, vc, rfl, hvc⟩ := O7.form2; have HX7 := (HX5.keep (below_alloc (Below.refl _ _) _)).grownO hg7 (hb7.mono hDs0) (fun e => by have := (hbk.out _ e).1; omega) (fun e => by have := (hbk.out _ e).2; omega); have c8 := HX7.ev.cell 8 _ rfl; have f8 := HX7.ev.fz 8 (by exact Nat.le_of_ble_eq_true rfl); have T7 := Lib.hid ((T5.alloc _).grown hg7 (fun e => by have := (hbk.out _ e).2; omega)); clear HX5 hg7))
    all_goals
      go_upto_region 11 with fail
      have HF : DX w a len cap g w.heap.size w1.heap.size [.int .i64 0, .int .i64 0, .int .i64 0, .int .i64 0, .int .i64 0, .int .i64 0, .int .i64 0, .bool false, .slice none 0 0, .int .i64 0, .int .i64 0, .int .i64 0, .int .i64 0, .int .i64 0] [.int .i64 s.kind, .int .i64 s.ev.kind, .int .i64 s.ev.key, .int .i64 s.ev.ch, .int .i64 s.ev.to, .int .i64 s.ev.amt, .int .i64 s.ev.fee, .bool s.ev.yes, .slice va KS.length vc, .int .i64 s.lo, .int .i64 s.hi, .int .i64 s.step, .int .i64 s.mn, .int .i64 s.mx] (w7.setCell ⟨w1.heap.size, 8, none⟩ (.slice va KS.length vc)) := HX7.put 8 (.slice va KS.length vc) (by exact Nat.le_of_ble_eq_true rfl)
      have OF := O7.keepE (grown_setCell w7 w1.heap.size 8 (.slice va KS.length vc)) (T7.out.ne O7 (by decide))
      generalize w7.setCell ⟨w1.heap.size, 8, none⟩ (.slice va KS.length vc) = XF at HF OF ⊢
      clear HX7 O7 c8 f8
      go_wp2_with (first | ((show Go.wpList _ _ _ ((Go.Oper.mk _ (Go.Op.load 79 _) _ _ _ _) :: _) _ _); refine wpList_load_row unStp infStp rfl _ rfl (w1.heap.size) 0 rfl [.int .i64 s.kind, .int .i64 s.ev.kind, .int .i64 s.ev.key, .int .i64 s.ev.ch, .int .i64 s.ev.to, .int .i64 s.ev.amt, .int .i64 s.ev.fee, .bool s.ev.yes, .slice va KS.length vc, .int .i64 s.lo, .int .i64 s.hi, .int .i64 s.step, .int .i64 s.mn, .int .i64 s.mx] HF.ev.at_ rfl ?_) | ((show Go.wpList _ _ _ ((Go.Oper.mk _ (Go.Op.store 79 _ _) _ _ _ _) :: _) _ _); refine wpList_store_row infStp rfl _ _ rfl (w.heap.size) 0 [.int .i64 s.kind, .int .i64 s.ev.kind, .int .i64 s.ev.key, .int .i64 s.ev.ch, .int .i64 s.ev.to, .int .i64 s.ev.amt, .int .i64 s.ev.fee, .bool s.ev.yes, .slice va KS.length vc, .int .i64 s.lo, .int .i64 s.hi, .int .i64 s.step, .int .i64 s.mn, .int .i64 s.mx] rfl rfl (HF.rs.there 0 14 (by exact Nat.le_of_ble_eq_true rfl)) rfl (fun v hv => by simp only [List.mem_cons, List.not_mem_nil, or_false] at hv; rcases hv with rfl | rfl | rfl | rfl | rfl | rfl | rfl | rfl | rfl | rfl | rfl | rfl | rfl | rfl <;> rfl) ?_))
      have hF := HF.rs.set1 (vs := [.int .i64 s.kind, .int .i64 s.ev.kind, .int .i64 s.ev.key, .int .i64 s.ev.ch, .int .i64 s.ev.to, .int .i64 s.ev.amt, .int .i64 s.ev.fee, .bool s.ev.yes, .slice va KS.length vc, .int .i64 s.lo, .int .i64 s.hi, .int .i64 s.step, .int .i64 s.mn, .int .i64 s.mx]) rfl
      have hL := retStep hF rfl
      have O9 := OwnI.leB (OwnI.keepE OF (grown_setsS w.heap.size [.int .i64 s.kind, .int .i64 s.ev.kind, .int .i64 s.ev.key, .int .i64 s.ev.ch, .int .i64 s.ev.to, .int .i64 s.ev.amt, .int .i64 s.ev.fee, .bool s.ev.yes, .slice va KS.length vc, .int .i64 s.lo, .int .i64 s.hi, .int .i64 s.step, .int .i64 s.mn, .int .i64 s.mx] 0 XF) (fun e => by have := (OF.bnd _ e).1; omega)) hDs0
      refine bodyPost_ret (v := .agg #[.int .i64 s.kind, .int .i64 s.ev.kind, .int .i64 s.ev.key, .int .i64 s.ev.ch, .int .i64 s.ev.to, .int .i64 s.ev.amt, .int .i64 s.ev.fee, .bool s.ev.yes, .slice va KS.length vc, .int .i64 s.lo, .int .i64 s.hi, .int .i64 s.step, .int .i64 s.mn, .int .i64 s.mx]) (by simp only [results, Tryz.results82, Act.put, List.setIfInBounds_toArray, List.set_cons_zero, List.set_cons_succ]; simp [hL, asAddr]) rfl ?_
      have hn := HN.out
      subst hn
      exact ⟨⟨({ s with keep := KS } : St), _, _, rfl, O9, (by show KS.length ≤ 7; rw [HKS2.out, List.length_append, List.length_singleton]; omega), (fun z hz => by have hz : z ∈ KS := hz; rw [HKS2.out] at hz; rcases List.mem_append.1 hz with hz | hz; exact HKS.out z hz; rw [List.mem_singleton] at hz; subst hz; exact ⟨hy0, hy1⟩)⟩, HF.dr.setCells (Nat.le_refl _) _ _ _⟩
  · go_wp2_with fail
    refine (l10Any_any _ _ _ _ _ HX.dr.cur).mono ?_
    rintro e w5 ⟨⟨lo, hi, st, mn, mx, rfl, hlo, hhi, hst, hmn, hmx⟩, D5⟩
    replace HX := HX.draw D5
    have O5 := O3.keepG D5.grown hgX
    have T5 : w5.there w1.heap.size 9 5 := HX.ev.there 9 5 (by exact Nat.le_of_ble_eq_true rfl)
    clear O3 D5
    go_upto_region 11 with (first | ((show Go.wpList _ _ _ ((Go.Oper.mk _ (Go.Op.fieldAddr _ _ _) _ _ _ _) :: (Go.Oper.mk _ (Go.Op.store 77 _ _) _ _ _ _) :: _) _ _); refine wpList_plain rfl fun K hK => ?_; go_simp; refine hK _ _ ?_; clear hK) | ((show Go.wpList _ _ _ ((Go.Oper.mk _ (Go.Op.store 77 _ _) _ _ _ _) :: _) _ _); refine wpList_store_row infRu5 rfl _ _ rfl w1.heap.size 9 [.int .i64 lo, .int .i64 hi, .int .i64 st, .int .i64 mn, .int .i64 mx] rfl rfl (T5) rfl (fun v hv => by simp only [List.mem_cons, List.not_mem_nil, or_false] at hv; rcases hv with rfl | rfl | rfl | rfl | rfl <;> rfl) ?_))
    have HF : DX w a len cap g w.heap.size w1.heap.size [.int .i64 0, .int .i64 0, .int .i64 0, .int .i64 0, .int .i64 0, .int .i64 0, .int .i64 0, .bool false, .slice none 0 0, .int .i64 0, .int .i64 0, .int .i64 0, .int .i64 0, .int .i64 0] [.int .i64 s.kind, .int .i64 s.ev.kind, .int .i64 s.ev.key, .int .i64 s.ev.ch, .int .i64 s.ev.to, .int .i64 s.ev.amt, .int .i64 s.ev.fee, .bool s.ev.yes, .slice ka n kc, .int .i64 lo, .int .i64 hi, .int .i64 st, .int .i64 mn, .int .i64 mx] (w5.setCells w1.heap.size 9 [.int .i64 lo, .int .i64 hi, .int .i64 st, .int .i64 mn, .int .i64 mx]) := HX.sets 9 [.int .i64 lo, .int .i64 hi, .int .i64 st, .int .i64 mn, .int .i64 mx] (by exact Nat.le_of_ble_eq_true rfl)
    have OF := O5.keepE (grown_setsS w1.heap.size [.int .i64 lo, .int .i64 hi, .int .i64 st, .int .i64 mn, .int .i64 mx] 9 w5) (fun e => by have := hbk.out _ e; omega)
    generalize w5.setCells w1.heap.size 9 [.int .i64 lo, .int .i64 hi, .int .i64 st, .int .i64 mn, .int .i64 mx] = XF at HF OF ⊢
    clear HX O5 T5
    go_wp2_with (first | ((show Go.wpList _ _ _ ((Go.Oper.mk _ (Go.Op.load 79 _) _ _ _ _) :: _) _ _); refine wpList_load_row unStp infStp rfl _ rfl (w1.heap.size) 0 rfl [.int .i64 s.kind, .int .i64 s.ev.kind, .int .i64 s.ev.key, .int .i64 s.ev.ch, .int .i64 s.ev.to, .int .i64 s.ev.amt, .int .i64 s.ev.fee, .bool s.ev.yes, .slice ka n kc, .int .i64 lo, .int .i64 hi, .int .i64 st, .int .i64 mn, .int .i64 mx] HF.ev.at_ rfl ?_) | ((show Go.wpList _ _ _ ((Go.Oper.mk _ (Go.Op.store 79 _ _) _ _ _ _) :: _) _ _); refine wpList_store_row infStp rfl _ _ rfl (w.heap.size) 0 [.int .i64 s.kind, .int .i64 s.ev.kind, .int .i64 s.ev.key, .int .i64 s.ev.ch, .int .i64 s.ev.to, .int .i64 s.ev.amt, .int .i64 s.ev.fee, .bool s.ev.yes, .slice ka n kc, .int .i64 lo, .int .i64 hi, .int .i64 st, .int .i64 mn, .int .i64 mx] rfl rfl (HF.rs.there 0 14 (by exact Nat.le_of_ble_eq_true rfl)) rfl (fun v hv => by simp only [List.mem_cons, List.not_mem_nil, or_false] at hv; rcases hv with rfl | rfl | rfl | rfl | rfl | rfl | rfl | rfl | rfl | rfl | rfl | rfl | rfl | rfl <;> rfl) ?_))
    have hF := HF.rs.set1 (vs := [.int .i64 s.kind, .int .i64 s.ev.kind, .int .i64 s.ev.key, .int .i64 s.ev.ch, .int .i64 s.ev.to, .int .i64 s.ev.amt, .int .i64 s.ev.fee, .bool s.ev.yes, .slice ka n kc, .int .i64 lo, .int .i64 hi, .int .i64 st, .int .i64 mn, .int .i64 mx]) rfl
    have hL := retStep hF rfl
    have O9 := OwnI.leB (OwnI.keepE OF (grown_setsS w.heap.size [.int .i64 s.kind, .int .i64 s.ev.kind, .int .i64 s.ev.key, .int .i64 s.ev.ch, .int .i64 s.ev.to, .int .i64 s.ev.amt, .int .i64 s.ev.fee, .bool s.ev.yes, .slice ka n kc, .int .i64 lo, .int .i64 hi, .int .i64 st, .int .i64 mn, .int .i64 mx] 0 XF) (fun e => by have := (OF.bnd _ e).1; omega)) hDs0
    refine bodyPost_ret (v := .agg #[.int .i64 s.kind, .int .i64 s.ev.kind, .int .i64 s.ev.key, .int .i64 s.ev.ch, .int .i64 s.ev.to, .int .i64 s.ev.amt, .int .i64 s.ev.fee, .bool s.ev.yes, .slice ka n kc, .int .i64 lo, .int .i64 hi, .int .i64 st, .int .i64 mn, .int .i64 mx]) (by simp only [results, Tryz.results82, Act.put, List.setIfInBounds_toArray, List.set_cons_zero, List.set_cons_succ]; simp [hL, asAddr]) rfl ?_
    have hn := HN.out
    subst hn
    exact ⟨⟨({ s with lo := lo, hi := hi, step := st, mn := mn, mx := mx } : St), _, _, rfl, O9, by show s.keep.length ≤ 7; omega, HKS.out⟩, HF.dr.setCells (Nat.le_refl _) _ _ _⟩
  · go_upto_region 11 with fail
    have HF := HX
    have OF := O3
    clear HX O3
    obtain ⟨XF, hXF⟩ : ∃ X, X = w3 := ⟨_, rfl⟩
    rw [← hXF] at HF OF ⊢
    clear hXF
    go_wp2_with (first | ((show Go.wpList _ _ _ ((Go.Oper.mk _ (Go.Op.load 79 _) _ _ _ _) :: _) _ _); refine wpList_load_row unStp infStp rfl _ rfl (w1.heap.size) 0 rfl [.int .i64 s.kind, .int .i64 s.ev.kind, .int .i64 s.ev.key, .int .i64 s.ev.ch, .int .i64 s.ev.to, .int .i64 s.ev.amt, .int .i64 s.ev.fee, .bool s.ev.yes, .slice ka n kc, .int .i64 s.lo, .int .i64 s.hi, .int .i64 s.step, .int .i64 s.mn, .int .i64 s.mx] HF.ev.at_ rfl ?_) | ((show Go.wpList _ _ _ ((Go.Oper.mk _ (Go.Op.store 79 _ _) _ _ _ _) :: _) _ _); refine wpList_store_row infStp rfl _ _ rfl (w.heap.size) 0 [.int .i64 s.kind, .int .i64 s.ev.kind, .int .i64 s.ev.key, .int .i64 s.ev.ch, .int .i64 s.ev.to, .int .i64 s.ev.amt, .int .i64 s.ev.fee, .bool s.ev.yes, .slice ka n kc, .int .i64 s.lo, .int .i64 s.hi, .int .i64 s.step, .int .i64 s.mn, .int .i64 s.mx] rfl rfl (HF.rs.there 0 14 (by exact Nat.le_of_ble_eq_true rfl)) rfl (fun v hv => by simp only [List.mem_cons, List.not_mem_nil, or_false] at hv; rcases hv with rfl | rfl | rfl | rfl | rfl | rfl | rfl | rfl | rfl | rfl | rfl | rfl | rfl | rfl <;> rfl) ?_))
    have hF := HF.rs.set1 (vs := [.int .i64 s.kind, .int .i64 s.ev.kind, .int .i64 s.ev.key, .int .i64 s.ev.ch, .int .i64 s.ev.to, .int .i64 s.ev.amt, .int .i64 s.ev.fee, .bool s.ev.yes, .slice ka n kc, .int .i64 s.lo, .int .i64 s.hi, .int .i64 s.step, .int .i64 s.mn, .int .i64 s.mx]) rfl
    have hL := retStep hF rfl
    have O9 := OwnI.leB (OwnI.keepE OF (grown_setsS w.heap.size [.int .i64 s.kind, .int .i64 s.ev.kind, .int .i64 s.ev.key, .int .i64 s.ev.ch, .int .i64 s.ev.to, .int .i64 s.ev.amt, .int .i64 s.ev.fee, .bool s.ev.yes, .slice ka n kc, .int .i64 s.lo, .int .i64 s.hi, .int .i64 s.step, .int .i64 s.mn, .int .i64 s.mx] 0 XF) (fun e => by have := (OF.bnd _ e).1; omega)) hDs0
    refine bodyPost_ret (v := .agg #[.int .i64 s.kind, .int .i64 s.ev.kind, .int .i64 s.ev.key, .int .i64 s.ev.ch, .int .i64 s.ev.to, .int .i64 s.ev.amt, .int .i64 s.ev.fee, .bool s.ev.yes, .slice ka n kc, .int .i64 s.lo, .int .i64 s.hi, .int .i64 s.step, .int .i64 s.mn, .int .i64 s.mx]) (by simp only [results, Tryz.results82, Act.put, List.setIfInBounds_toArray, List.set_cons_zero, List.set_cons_succ]; simp [hL, asAddr]) rfl ?_
    have hn := HN.out
    subst hn
    exact ⟨⟨s, _, _, rfl, O9, by omega, HKS.out⟩, HF.dr.setCells (Nat.le_refl _) _ _ _⟩

end Go.Proofs.YtafbdbefmlgioaaGreatDoor
