/- Steps read: the program. -/
import Derived.Test.YtafbdbefmlgioaaGreatDoorTstT
import Derived.Test.YtafbdbefmlgioaaGreatDoorTBill
import Derived.Test.YtafbdbefmlgioaaGreatDoorStJ
import Derived.Deep.CutBlock
import Derived.Deep.DeepCutAuto
import Derived.Deep.RegionHeld3
import Derived.Test.YtafbdbefmlgioaaGreatDoorTevS
namespace Go.Proofs.YtafbdbefmlgioaaGreatDoor
open Go.RowKit
set_option linter.unusedVariables false
set_option linter.unusedSimpArgs false

set_option maxRecDepth 100000 in
set_option maxHeartbeats 6400000 in
theorem textStep_impl (s : ByteArray) (hs : s.size ≤ 1048576) (w : World) (T0 : LV w) : Calls Tryz.prog 18 #[.string s] w fun e w' =>
    (∃ a c, e = .returned (.tuple #[.agg ((ts s.data.toList).cells a c).toArray, .bool (tsOk s.data.toList)]) ∧ OwnI w' w.heap.size (.slice a (ts s.data.toList).keep.length c) (ts s.data.toList).keep) ∧ Below w.heap.size w w' := by
  have hsl : s.data.toList.length = s.size := Array.length_toList
  have hwl : (words s.data.toList).length ≤ s.size + 1 := by have := wordsGo_len s.data.toList []; rw [hsl] at this; exact this
  have hwp := words_pos s.data.toList
  have hmem : ∀ x ∈ words s.data.toList, x.length ≤ 1048576 := fun x hx => by have := wordsGo_mem s.data.toList [] x hx; simp only [List.length_nil] at this; omega
  obtain ⟨W, hW⟩ : ∃ W, W = words s.data.toList := ⟨_, rfl⟩
  rw [← hW] at hwl hwp hmem
  have HW := Lib.hid hW
  have HM : Hid (∀ y ∈ W.map S, y.size ≤ 1048576) := by
    intro y hy
    obtain ⟨x, hx, rfl⟩ := List.mem_map.1 hy
    have := hmem x hx
    simpa [S, ByteArray.size] using this
  have HSL := Lib.hid hsl
  clear hW hmem hsl
  go_enter Tryz.func18, Tryz.ntmps18
  go_wp2_with fail
  refine (split_impl s hs _ (T0.keep (by (repeat (first | (with_reducible exact Below.refl _ _) | (with_reducible assumption) | (with_reducible refine Below.setCell ?_ ?side _; case side => first | (with_reducible exact Nat.le_refl _) | (simp; done) | (simp only [World.size_alloc, World.size_setCell, World.size_drew, World.heap_drewN] at *; omega)) | (with_reducible refine below_alloc ?_ _) | (with_reducible refine Below.drew ?_) | (with_reducible refine below_drewN ?_) | (with_reducible refine below_via (by assumption) ?_)))))).mono ?_
  rintro e w1 ⟨⟨v, rfl, hown⟩, b1⟩
  have B1 := below_via b1 (by (repeat (first | (with_reducible exact Below.refl _ _) | (with_reducible assumption) | (with_reducible refine Below.setCell ?_ ?side _; case side => first | (with_reducible exact Nat.le_refl _) | (simp; done) | (simp only [World.size_alloc, World.size_setCell, World.size_drew, World.heap_drewN] at *; omega)) | (with_reducible refine below_alloc ?_ _) | (with_reducible refine Below.drew ?_) | (with_reducible refine below_drewN ?_) | (with_reducible refine below_via (by assumption) ?_))) : Below w.heap.size w _)
  have z1 : w.heap.size < w1.heap.size := by have := b1.size; simp at this; omega
  have hR0 : Row w.heap.size [.int .i64 0, .int .i64 0, .int .i64 0, .int .i64 0, .int .i64 0, .int .i64 0, .int .i64 0, .bool false, .slice none 0 0, .int .i64 0, .int .i64 0, .int .i64 0, .int .i64 0, .int .i64 0] w1 := Row.keep (Row.new w #[.int .i64 0, .int .i64 0, .int .i64 0, .int .i64 0, .int .i64 0, .int .i64 0, .int .i64 0, .bool false, .slice none 0 0, .int .i64 0, .int .i64 0, .int .i64 0, .int .i64 0, .int .i64 0] 79) (by simp) b1
  have T1 := T0.keep B1
  rw [← HW.out] at hown
  obtain ⟨a, c, rfl, ho⟩ := OwnF.of (ok := fun s : ByteArray => s.size ≤ 1048576) hown HM.out
  have F : SS w1 w1.heap.size a (W.map S).length (W.map S) := OF.fs lenS ho
  rw [List.length_map] at F
  have hcap := ho.capB
  rw [List.length_map] at hcap
  clear hown ho
  obtain ⟨b, off, y, rfl, hb, -, -, -, -⟩ := FS.at_ F (k := 0) hwp
  obtain ⟨x0, hx0⟩ : ∃ x, W[0]? = some x := ⟨_, List.getElem?_eq_getElem hwp⟩
  have hw0 : Hid (w0 W = x0) := by unfold Hid w0; rw [hx0]; rfl
  have hc0 := SS.cellS F 0 (S x0) (by rw [List.getElem?_map, hx0]; rfl)
  rw [Nat.add_zero] at hc0
  have Hx0 := Lib.hid hx0
  clear hx0
  have HF := Lib.hid F
  have HR0 := Lib.hid hR0
  clear F hR0 b1
  rw [List.length_map]
  go_upto_region 2 with fail
  go_cut [5, 6] (fun l ok wx => (∃ q, ok = .bool q) ∧ OwnI wx w1.heap.size l (numsI W) ∧ Below w1.heap.size w1 wx)
  case first =>
    have hl1 : (1 : Int) ≤ (W.length : Int) := by omega
    have hl2 : (W.length : Int) - 1 = ((W.length - 1 : Nat) : Int) := by omega
    have hfin : ∀ (e : Ending) (w2 : World), ((numsOk ((W.drop 1).map S) = true ∧ ∃ v, e = .returned (.tuple #[v, .bool true]) ∧ OwnI w2 w1.heap.size v (numsV ((W.drop 1).map S))) ∨ (numsOk ((W.drop 1).map S) = false ∧ e = .returned (.tuple #[.slice none 0 0, .bool false]))) → ∃ v q, e = .returned (.tuple #[v, .bool q]) ∧ OwnI w2 w1.heap.size v (numsI W) := fun e w2 h => by
      rw [(allN_nums W).1, (allN_nums W).2] at h
      rcases h with ⟨h1, v, rfl, h2⟩ | ⟨h1, rfl⟩
      · exact ⟨v, true, rfl, nums_own (.inl ⟨h1, h2⟩)⟩
      · exact ⟨_, false, rfl, nums_own (.inr ⟨h1, rfl⟩)⟩
    have Hfin := Lib.hid hfin
    clear hfin hc0
    by_cases hc1 : c = 1
    · have hW1 : W.length = 1 := by omega
      have hd : W.drop 1 = [] := List.drop_eq_nil_of_le (by omega)
      have FN : SS w1 w1.heap.size (some ⟨b, off, none⟩) 0 ((W.drop 1).map S) := by
        rw [hd]
        exact FS.nil _ _ _
      have HFN := Lib.hid FN
      clear FN hd hW1
      subst hc1
      go_wp2_with fail
      with_reducible refine (numbersOf_impl _ _ _ _ _ HFN.out T1 (by omega)).mono ?_
      rintro e w2 ⟨hE, b2⟩
      obtain ⟨v, q, rfl, hown⟩ := Hfin.out e w2 hE
      clear hE
      go_wp2_with fail
      go_meet
      case rel => exact ⟨⟨q, rfl⟩, hown, b2⟩
    · have FN : SS w1 w1.heap.size (some ⟨b, off + 1, none⟩) (W.length - 1) ((W.drop 1).map S) := by
        have := SS.sub HF.out (i := 1) (n := W.length - 1) (by omega)
        rw [List.take_of_length_le (by rw [List.length_drop, List.length_map]; omega), ← List.map_drop] at this
        exact this
      have HFN := Lib.hid FN
      clear FN
      go_wp2_with fail
      with_reducible refine (numbersOf_impl _ _ _ _ _ HFN.out T1 (by omega)).mono ?_
      rintro e w2 ⟨hE, b2⟩
      obtain ⟨v, q, rfl, hown⟩ := Hfin.out e w2 hE
      clear hE
      go_wp2_with fail
      go_meet
      case rel => exact ⟨⟨q, rfl⟩, hown, b2⟩
  case rest =>
    obtain ⟨⟨q, rfl⟩, hown, c1⟩ := hcut
    obtain ⟨av, cv, hv5, hv6⟩ : ∃ a c, u5 = .slice a (numsI W).length c ∧ (numsI W).length ≤ c := by
      rcases hown.2 with ⟨h1, h2⟩ | ⟨g, cap, cur, h1, _, _, h3, _⟩
      · exact ⟨none, 0, by rw [h1, h2], by omega⟩
      · exact ⟨_, cap, h1, h3⟩
    subst hv5
    have B2 := below_via c1 B1
    have hcx := cell_keep c1 hc0
    have zc := c1.size
    have bX := below_alloc (Below.refl _ wc) (.cells #[.int .i64 0, .int .i64 0, .int .i64 0, .int .i64 0, .int .i64 0, .int .i64 0, .int .i64 0, .bool false, .slice none 0 0, .int .i64 0, .int .i64 0, .int .i64 0, .int .i64 0, .int .i64 0] 79)
    have hRX := Lib.hid (Row.new wc #[.int .i64 0, .int .i64 0, .int .i64 0, .int .i64 0, .int .i64 0, .int .i64 0, .int .i64 0, .bool false, .slice none 0 0, .int .i64 0, .int .i64 0, .int .i64 0, .int .i64 0, .int .i64 0] 79)
    have R02 := Lib.hid ((Row.keep HR0.out (by simp) c1).keep (by simp) bX)
    have hown2 := Lib.hid (keepI hown bX)
    have hvb : Hid (∀ k, (Value.slice av (numsI W).length cv).ownBlock = some k → k < wc.heap.size) := fun k hk => (hown.lt k hk).2
    have B3 := below_via bX B2
    have hcx2 := cell_keep bX hcx
    have hnb := numsI_bd W
    have HNB := Lib.hid hnb
    clear hc0 T1 hown c1 B1 hcx hnb bX
    obtain ⟨wa, rfl⟩ : ∃ wa : World, wa = wc := ⟨_, rfl⟩
    go_upto_region 4 with fail
    generalize wa.alloc (.cells #[.int .i64 0, .int .i64 0, .int .i64 0, .int .i64 0, .int .i64 0, .int .i64 0, .int .i64 0, .bool false, .slice none 0 0, .int .i64 0, .int .i64 0, .int .i64 0, .int .i64 0, .int .i64 0] 79) = wX at *
    go_upto_block 0 with fail
    go_cut [] (fun wq => ∃ (a : Option Addr) (cp : Nat), Row wa.heap.size ((tsI s.data.toList).cells a cp) wq ∧ OwnI wq w1.heap.size (.slice a (tsI s.data.toList).keep.length cp) (tsI s.data.toList).keep ∧ Row w.heap.size [.int .i64 0, .int .i64 0, .int .i64 0, .int .i64 0, .int .i64 0, .int .i64 0, .int .i64 0, .bool false, .slice none 0 0, .int .i64 0, .int .i64 0, .int .i64 0, .int .i64 0, .int .i64 0] wq ∧ Below w.heap.size w wq)
    case first =>
      have RX := hRX.out
      have RR := R02.out
      have hO := hown2.out
      have zX : wa.heap.size < wX.heap.size := RX.lt (by simp)
      have hTS : Hid (tsI s.data.toList = tsOf x0 (tev (trimTake s.data.toList)) (numsI W)) := by unfold Hid tsI; rw [← HW.out, hw0.out]
      by_cases h1 : x0 = takeW
      · have e1 : (x0 == [116, 97, 107, 101]) = true := by rw [h1]; rfl
        obtain ⟨E, hE⟩ : ∃ E, E = tev (trimTake s.data.toList) := ⟨_, rfl⟩
        have hT : Hid (tsI s.data.toList = { St.zero with kind := 1, ev := E }) := by unfold Hid; rw [hTS.out, hE]; unfold tsOf; rw [if_pos h1]
        have HE := Lib.hid hE
        have r0 := RX.cell 0 _ rfl
        have f0 := RX.fr 0 (by simp)
        have RX1 : Row wa.heap.size [.int .i64 1, .int .i64 0, .int .i64 0, .int .i64 0, .int .i64 0, .int .i64 0, .int .i64 0, .bool false, .slice none 0 0, .int .i64 0, .int .i64 0, .int .i64 0, .int .i64 0, .int .i64 0] (wX.setCell ⟨wa.heap.size, 0, none⟩ (.int .i64 1)) := RX.put 0 [.int .i64 1] (by simp)
        have RR1 : Row w.heap.size [.int .i64 0, .int .i64 0, .int .i64 0, .int .i64 0, .int .i64 0, .int .i64 0, .int .i64 0, .bool false, .slice none 0 0, .int .i64 0, .int .i64 0, .int .i64 0, .int .i64 0, .int .i64 0] (wX.setCell ⟨wa.heap.size, 0, none⟩ (.int .i64 1)) := RR.other (by omega) 0 [.int .i64 1]
        have B4 : Below w.heap.size w (wX.setCell ⟨wa.heap.size, 0, none⟩ (.int .i64 1)) := Below.setCell B3 (by show w.heap.size ≤ wa.heap.size; omega) _
        have htl := trimTake_len s.data.toList
        have hsz : (S (trimTake s.data.toList)).size ≤ 1048576 := by have := HSL.out; show (trimTake s.data.toList).toArray.size ≤ _; rw [List.size_toArray]; omega
        have HRX1 := Lib.hid RX1
        have HRR1 := Lib.hid RR1
        clear h1 hE RX1 RR1 htl RX RR
        go_wp2_with fail
        refine (Tryz.strings_TrimPrefix _ _ _).mono ?_
        rintro e w3 ⟨rfl, hw3⟩
        subst hw3
        rw [show (⟨(Lib.trimPrefix s.data.toList (ByteArray.data ⟨#[116, 97, 107, 101, 32]⟩).toList).toArray⟩ : ByteArray) = S (trimTake s.data.toList) from congrArg S (trim_take s.data.toList)]
        go_wp2_with fail
        refine (textEvent_impl (S (trimTake s.data.toList)) hsz _ (T0.keep B4)).mono ?_
        rintro e w5 ⟨rfl, b5⟩
        rw [show (S (trimTake s.data.toList)).data.toList = trimTake s.data.toList from rfl, ← HE.out]
        generalize tevOk (trimTake s.data.toList) = ok5
        have RX5 := HRX1.out.keep (by simp) b5
        have RR5 := HRR1.out.keep (by simp) b5
        have B5 := below_via b5 B4
        have T2 := RX5.there 1 7 (by simp)
        have HRX5 := Lib.hid RX5
        have HRR5 := Lib.hid RR5
        clear r0 f0 RX5 RR5 b5
        go_wp2_with (first | ((show Go.wpList _ _ _ ((Go.Oper.mk _ (Go.Op.fieldAddr _ _ _) _ _ _ _) :: (Go.Oper.mk _ (Go.Op.store 75 _ _) _ _ _ _) :: _) _ _); refine wpList_plain rfl fun K hK => ?_; go_simp; refine hK _ _ ?_; clear hK) | ((show Go.wpList _ _ _ ((Go.Oper.mk _ (Go.Op.store 75 _ _) _ _ _ _) :: _) _ _); refine wpList_store_mid rfl 75 _ _ rfl wa.heap.size 1 E.enc.toArray rfl rfl T2 infoEv (all_oneCell_toArray (by simp [Ev.enc, Value.oneCell'])) ?_))
        go_meet
        case rel => exact ⟨none, 0, by rw [hT.out]; exact HRX5.out.put 1 E.enc (by simp [Ev.enc]), by rw [hT.out]; exact World.ownsRow_nil _ _ _ _, HRR5.out.other (by omega) 1 E.enc, belowSet (by omega : w.heap.size ≤ wa.heap.size) E.enc w5 1 B5⟩
      · have e1 : (x0 == [116, 97, 107, 101]) = false := beq_eq_false_iff_ne.2 h1
        by_cases h2 : x0 = syncB
        · have e2 : (x0 == [115, 121, 110, 99]) = true := by rw [h2]; rfl
          have hT : Hid (tsI s.data.toList = { St.zero with kind := 2 }) := by unfold Hid; rw [hTS.out]; unfold tsOf; rw [if_neg h1, if_pos h2]
          have r0 := RX.cell 0 _ rfl
          have f0 := RX.fr 0 (by simp)
          clear h1 h2
          go_wp2_with fail
          go_meet
          case rel => exact ⟨none, 0, by rw [hT.out]; exact RX.put 0 [.int .i64 2] (by simp), by rw [hT.out]; exact World.ownsRow_nil _ _ _ _, RR.other (by omega) 0 [.int .i64 2], Below.setCell B3 (by show w.heap.size ≤ wa.heap.size; omega) _⟩
        · have e2 : (x0 == [115, 121, 110, 99]) = false := beq_eq_false_iff_ne.2 h2
          by_cases h3 : x0 = startB
          · have e3 : (x0 == [115, 116, 97, 114, 116]) = true := by rw [h3]; rfl
            have hT : Hid (tsI s.data.toList = { St.zero with kind := 4 }) := by unfold Hid; rw [hTS.out]; unfold tsOf; rw [if_neg h1, if_neg h2, if_pos h3]
            have r0 := RX.cell 0 _ rfl
            have f0 := RX.fr 0 (by simp)
            clear h1 h2 h3
            go_wp2_with fail
            go_meet
            case rel => exact ⟨none, 0, by rw [hT.out]; exact RX.put 0 [.int .i64 4] (by simp), by rw [hT.out]; exact World.ownsRow_nil _ _ _ _, RR.other (by omega) 0 [.int .i64 4], Below.setCell B3 (by show w.heap.size ≤ wa.heap.size; omega) _⟩
          · have e3 : (x0 == [115, 116, 97, 114, 116]) = false := beq_eq_false_iff_ne.2 h3
            by_cases h4 : x0 = crashB
            · have e4 : (x0 == [99, 114, 97, 115, 104]) = true := by rw [h4]; rfl
              have hT : Hid (tsI s.data.toList = { St.zero with kind := 3, keep := numsI W }) := by unfold Hid; rw [hTS.out]; unfold tsOf; rw [if_neg h1, if_neg h2, if_neg h3, if_pos h4]
              have r0 := RX.cell 0 _ rfl
              have f0 := RX.fr 0 (by simp)
              have r8 := RX.cell 8 _ rfl
              have f8 := RX.fr 8 (by simp)
              have RX3 : Row wa.heap.size [.int .i64 3, .int .i64 0, .int .i64 0, .int .i64 0, .int .i64 0, .int .i64 0, .int .i64 0, .bool false, .slice none 0 0, .int .i64 0, .int .i64 0, .int .i64 0, .int .i64 0, .int .i64 0] (wX.setCell ⟨wa.heap.size, 0, none⟩ (.int .i64 3)) := RX.put 0 [.int .i64 3] (by simp)
              have RX4 := Lib.hid (RX3.put 8 [.slice av (numsI W).length cv] (by simp))
              have RR4 := Lib.hid ((RR.other (show w.heap.size ≠ wa.heap.size by omega) 0 [.int .i64 3]).other (show w.heap.size ≠ wa.heap.size by omega) 8 [.slice av (numsI W).length cv])
              have hO4 := Lib.hid (keepIG (keepIG hO (grown_setCell _ wa.heap.size 0 (.int .i64 3)) (fun h => by have := hvb.out _ h; omega)) (grown_setCell _ wa.heap.size 8 (.slice av (numsI W).length cv)) (fun h => by have := hvb.out _ h; omega))
              clear h1 h2 h3 h4 RX RX3 RR hO
              go_wp2_with fail
              go_meet
              case rel => exact ⟨av, cv, by rw [hT.out]; exact RX4.out, by rw [hT.out]; exact hO4.out, RR4.out, Below.setCell (Below.setCell B3 (by show w.heap.size ≤ wa.heap.size; omega) _) (by show w.heap.size ≤ wa.heap.size; omega) _⟩
            · have e4 : (x0 == [99, 114, 97, 115, 104]) = false := beq_eq_false_iff_ne.2 h4
              by_cases h5 : x0 = turnB
              · have e5 : (x0 == [116, 117, 114, 110]) = true := by rw [h5]; rfl
                have hT : Hid (tsI s.data.toList = rule5 { St.zero with kind := 5 } (numsI W)) := by unfold Hid; rw [hTS.out]; unfold tsOf; rw [if_neg h1, if_neg h2, if_neg h3, if_neg h4, if_pos h5]
                have r0 := RX.cell 0 _ rfl
                have f0 := RX.fr 0 (by simp)
                have RX5 : Row wa.heap.size [.int .i64 5, .int .i64 0, .int .i64 0, .int .i64 0, .int .i64 0, .int .i64 0, .int .i64 0, .bool false, .slice none 0 0, .int .i64 0, .int .i64 0, .int .i64 0, .int .i64 0, .int .i64 0] (wX.setCell ⟨wa.heap.size, 0, none⟩ (.int .i64 5)) := RX.put 0 [.int .i64 5] (by simp)
                have RR5 := Lib.hid (RR.other (show w.heap.size ≠ wa.heap.size by omega) 0 [.int .i64 5])
                have hO5 := Lib.hid (keepIG hO (grown_setCell _ wa.heap.size 0 (.int .i64 5)) (fun h => by have := hvb.out _ h; omega))
                clear h1 h2 h3 h4 h5
                by_cases hn5 : (numsI W).length = 5
                · have hn5i : (((numsI W).length : Int) == 5) = true := by rw [hn5]; rfl
                  obtain ⟨n0, n1, n2, n3, n4, hns⟩ : ∃ n0 n1 n2 n3 n4, numsI W = [n0, n1, n2, n3, n4] := by
                    match numsI W, hn5 with
                    | [n0, n1, n2, n3, n4], _ => exact ⟨n0, n1, n2, n3, n4, rfl⟩
                  rw [hns] at hO5
                  have I5 := OwnI.is hO5.out (fun n hn => by have := HNB.out n (by rw [hns]; exact hn); omega)
                  obtain ⟨a', c', ev, I5⟩ := I5
                  injection ev with ev1 ev2 ev3
                  subst ev1
                  obtain ⟨g5, o5, q0, rfl, hb0, d0, -, hq0, -⟩ := IS.at_ I5 (k := 0) (by simp)
                  cases hq0.out
                  have d1 := IS.cell I5 1 n1 rfl
                  have d2 := IS.cell I5 2 n2 rfl
                  have d3 := IS.cell I5 3 n3 rfl
                  have d4 := IS.cell I5 4 n4 rfl
                  simp only [Nat.add_zero] at d0
                  rw [hns] at hT
                  have r9 := RX5.cell 9 _ rfl
                  have r10 := RX5.cell 10 _ rfl
                  have r11 := RX5.cell 11 _ rfl
                  have r12 := RX5.cell 12 _ rfl
                  have r13 := RX5.cell 13 _ rfl
                  have f9 := RX5.fr 9 (by simp)
                  have f10 := RX5.fr 10 (by simp)
                  have f11 := RX5.fr 11 (by simp)
                  have f12 := RX5.fr 12 (by simp)
                  have f13 := RX5.fr 13 (by simp)
                  have HRX5 := Lib.hid RX5
                  have hg5 : g5 ≠ wa.heap.size := by have := hvb.out g5 rfl; omega
                  have hg6 : ¬ wa.heap.size = g5 := by have := hvb.out g5 rfl; omega
                  have hN0 : 0 < (numsI W).length := by omega
                  have hN1 : 1 < (numsI W).length := by omega
                  have hN2 : 2 < (numsI W).length := by omega
                  have hN3 : 3 < (numsI W).length := by omega
                  have hN4 : 4 < (numsI W).length := by omega
                  have hl0 : (0 : Int) < ((numsI W).length : Int) := by omega
                  have hl1 : (1 : Int) < ((numsI W).length : Int) := by omega
                  have hl2 : (2 : Int) < ((numsI W).length : Int) := by omega
                  have hl3 : (3 : Int) < ((numsI W).length : Int) := by omega
                  have hl4 : (4 : Int) < ((numsI W).length : Int) := by omega
                  clear RX RX5 I5 ev2 ev3 hns hn5 RR hO
                  have KX : Row wa.heap.size [.int .i64 5, .int .i64 0, .int .i64 0, .int .i64 0, .int .i64 0, .int .i64 0, .int .i64 0, .bool false, .slice none 0 0, .int .i64 n0, .int .i64 n1, .int .i64 n2, .int .i64 n3, .int .i64 n4] ((((((wX.setCell ⟨wa.heap.size, 0, none⟩ (.int .i64 5)).setCell ⟨wa.heap.size, 9, none⟩ (.int .i64 n0)).setCell ⟨wa.heap.size, 10, none⟩ (.int .i64 n1)).setCell ⟨wa.heap.size, 11, none⟩ (.int .i64 n2)).setCell ⟨wa.heap.size, 12, none⟩ (.int .i64 n3)).setCell ⟨wa.heap.size, 13, none⟩ (.int .i64 n4)) := HRX5.out.put 9 [.int .i64 n0, .int .i64 n1, .int .i64 n2, .int .i64 n3, .int .i64 n4] (by simp)
                  have KR : Row w.heap.size [.int .i64 0, .int .i64 0, .int .i64 0, .int .i64 0, .int .i64 0, .int .i64 0, .int .i64 0, .bool false, .slice none 0 0, .int .i64 0, .int .i64 0, .int .i64 0, .int .i64 0, .int .i64 0] ((((((wX.setCell ⟨wa.heap.size, 0, none⟩ (.int .i64 5)).setCell ⟨wa.heap.size, 9, none⟩ (.int .i64 n0)).setCell ⟨wa.heap.size, 10, none⟩ (.int .i64 n1)).setCell ⟨wa.heap.size, 11, none⟩ (.int .i64 n2)).setCell ⟨wa.heap.size, 12, none⟩ (.int .i64 n3)).setCell ⟨wa.heap.size, 13, none⟩ (.int .i64 n4)) := RR5.out.other (show w.heap.size ≠ wa.heap.size by omega) 9 [.int .i64 n0, .int .i64 n1, .int .i64 n2, .int .i64 n3, .int .i64 n4]
                  have KB : Below w.heap.size w ((((((wX.setCell ⟨wa.heap.size, 0, none⟩ (.int .i64 5)).setCell ⟨wa.heap.size, 9, none⟩ (.int .i64 n0)).setCell ⟨wa.heap.size, 10, none⟩ (.int .i64 n1)).setCell ⟨wa.heap.size, 11, none⟩ (.int .i64 n2)).setCell ⟨wa.heap.size, 12, none⟩ (.int .i64 n3)).setCell ⟨wa.heap.size, 13, none⟩ (.int .i64 n4)) := belowSet (by omega : w.heap.size ≤ wa.heap.size) [.int .i64 n0, .int .i64 n1, .int .i64 n2, .int .i64 n3, .int .i64 n4] _ 9 (Below.setCell B3 (by show w.heap.size ≤ wa.heap.size; omega) _)
                  have HK := Lib.hid (And.intro KX (And.intro KR KB))
                  clear KX KR KB HRX5 RR5
                  go_wp2_with fail
                  go_region_held3 (fun w' => w'.cell? ⟨g5, o5, none⟩ = some (.int .i64 n0) ∧ w'.cell? ⟨g5, o5 + 1, none⟩ = some (.int .i64 n1) ∧ w'.cell? ⟨g5, o5 + 2, none⟩ = some (.int .i64 n2) ∧ w'.cell? ⟨g5, o5 + 3, none⟩ = some (.int .i64 n3) ∧ w'.cell? ⟨g5, o5 + 4, none⟩ = some (.int .i64 n4)) (go_keep) (first | fail)
                  all_goals
                    obtain ⟨KX, KR, KB⟩ := HK.out
                    go_wp2_with fail
                    go_meet
                    case rel =>
                      refine ⟨none, 0, ?_, by rw [hT.out]; exact World.ownsRow_nil _ _ _ _, ?_, ?_⟩
                      · rw [hT.out]
                        exact Row.drew KX
                      · exact Row.drew KR
                      · exact Below.drew KB
                · have hn5i : (((numsI W).length : Int) == 5) = false := beq_eq_false_iff_ne.2 (by omega)
                  have hT2 : Hid (tsI s.data.toList = { St.zero with kind := 5 }) := by
                    unfold Hid
                    rw [hT.out]
                    unfold rule5
                    split
                    · rename_i e; rw [e] at hn5; exact absurd rfl hn5
                    · rfl
                  have HRX5 := Lib.hid RX5
                  clear RX RX5 RR hO hn5
                  go_wp2_with fail
                  go_meet
                  case rel => exact ⟨none, 0, by rw [hT2.out]; exact HRX5.out, by rw [hT2.out]; exact World.ownsRow_nil _ _ _ _, RR5.out, Below.setCell B3 (by show w.heap.size ≤ wa.heap.size; omega) _⟩
              · have e5 : (x0 == [116, 117, 114, 110]) = false := beq_eq_false_iff_ne.2 h5
                have hT : Hid (tsI s.data.toList = St.zero) := by unfold Hid; rw [hTS.out]; unfold tsOf; rw [if_neg h1, if_neg h2, if_neg h3, if_neg h4, if_neg h5]
                clear h1 h2 h3 h4 h5
                go_wp2_with fail
                go_meet
                case rel => exact ⟨none, 0, by rw [hT.out]; exact RX, by rw [hT.out]; exact World.ownsRow_nil _ _ _ _, RR, B3⟩
    case rest =>
      obtain ⟨a2, cp2, RX, hO, RR, hB⟩ := hcut
      obtain ⟨X, hX⟩ : ∃ X, X = tsI s.data.toList := ⟨_, rfl⟩
      rw [← hX] at RX hO
      have HX := Lib.hid hX
      have hkl : Hid (X.keep.length ≤ 1048576 ∧ ∀ n ∈ X.keep, -1125899906842624 ≤ n ∧ n ≤ 1125899906842624) := by
        have h0 : X.keep = numsI W ∨ X.keep = [] := by
          rw [hX]
          unfold tsI tsOf
          rw [← HW.out]
          split
          · exact .inr rfl
          · split
            · exact .inr rfl
            · split
              · exact .inr rfl
              · split
                · exact .inl rfl
                · split
                  · unfold rule5; split <;> exact .inr rfl
                  · exact .inr rfl
        have hnl : (numsI W).length ≤ 1048576 := by
          unfold numsI
          split
          · unfold tvals; rw [List.length_map, List.length_drop]; omega
          · exact Nat.zero_le _
        rcases h0 with h0 | h0
        · rw [h0]; exact ⟨hnl, HNB.out⟩
        · rw [h0]; exact ⟨Nat.zero_le _, by simp⟩
      have I0 := OwnI.is hO (fun n hn => by have := hkl.out.2 n hn; omega)
      obtain ⟨a3, c3, ev, I0⟩ := I0
      injection ev with ev1 ev2 ev3
      subst ev1
      have G2 := RX.range
      have HRX := Lib.hid RX
      have HRR := Lib.hid RR
      have HO := Lib.hid hO
      have hXt : X.text = stText X.kind X.ev.kind X.ev.key X.ev.ch X.ev.to X.ev.amt X.ev.fee X.ev.yes X.keep X.lo X.hi X.step X.mn X.mx := rfl
      have HXt := Lib.hid hXt
      clear ev2 ev3 hX RX RR hO hXt hRX R02 hown2 HNB
      go_wp2_with (first | ((show Go.wpList _ _ _ ((Go.Oper.mk _ (Go.Op.load 79 _) _ _ _ _) :: _) _ _); refine wpList_load_mid rfl 79 _ rfl wa.heap.size 0 rfl (X.cells a2 cp2) _ G2 Tryz.underlying79 rfl infoSt ?_))
      refine (stText_impl X.kind X.ev.kind X.ev.key X.ev.ch X.ev.to X.ev.amt X.ev.fee X.ev.yes a2 X.keep.length cp2 X.keep X.lo X.hi X.step X.mn X.mx _ I0 (T0.keep hB).pm hkl.out.1).mono ?_
      rintro e w7 ⟨rfl, b7⟩
      rw [← HXt.out]
      have B7 := below_via b7 hB
      have RX7 := HRX.out.keep (by simp [St.cells]) b7
      have RR7 := HRR.out.keep (by simp) b7
      have O7 := Lib.hid (keepI HO.out b7)
      have G7 := RX7.range
      have T7 := RR7.there 0 14 (by simp)

      clear G2 I0 hB RX7 RR7 b7
      cases hto : tsOk s.data.toList with
      | true =>
        have ht := ts_yes hto
        have hT := of_decide_eq_true hto
        rw [← HX.out] at ht hT
        have e8 : (X.text == []) = false := by rw [hT.1]; exact beq_eq_false_iff_ne.2 hT.2
        have e10 : (X.text == s.toList) = true := beqS_yes (by rw [hT.1])
        have e9 : (!(X.text == s.toList)) = false := by rw [e10]; rfl
        have HT := Lib.hid ht
        have HTO := Lib.hid hto
        clear ht hT hto
        go_wp2_with (first
          | ((show Go.wpList _ _ _ ((Go.Oper.mk _ (Go.Op.load 79 _) _ _ _ _) :: _) _ _); refine wpList_load_mid rfl 79 _ rfl wa.heap.size 0 rfl (X.cells a2 cp2) _ G7 Tryz.underlying79 rfl infoSt ?_)
          | ((show Go.wpList _ _ _ ((Go.Oper.mk _ (Go.Op.store 79 _ _) _ _ _ _) :: _) _ _); refine wpList_store_mid rfl 79 _ _ rfl w.heap.size 0 (X.cells a2 cp2).toArray rfl rfl T7 infoSt (all_oneCell_toArray (by simp [St.cells, Value.oneCell'])) ?_))
        have hX9 := World.rangeAt_setCells_same w7 w.heap.size 0 (X.cells a2 cp2) T7
        have hL := loadStep _ _ _ hX9 rfl
        refine bodyPost_ret (v := .tuple #[.agg (X.cells a2 cp2).toArray, .bool true]) (by simp only [results, Tryz.results18, Act.put, List.setIfInBounds_toArray, List.set_cons_zero, List.set_cons_succ]; simp [hL, asAddr]) rfl ?_
        rw [HT.out, HTO.out]
        exact ⟨⟨a2, cp2, rfl, OwnI.leB (keepIG O7.out (grown_setCells w.heap.size (X.cells a2 cp2) 0 w7) (fun h => by have := (O7.out.lt _ h).1; omega)) (by omega)⟩, belowSet (Nat.le_refl _) (X.cells a2 cp2) w7 0 B7⟩
      | false =>
        have hT := of_decide_eq_false hto
        rw [← HX.out] at hT
        have hZ := Lib.hid (ts_no hto)
        have HTO := Lib.hid hto
        have HT := Lib.hid hT
        clear hto hT
        have fin : ∀ (w9 : World), w9 = w7.setCells w.heap.size 0 (St.zero.cells none 0) → ∃ a c, Ending.returned (.tuple #[.agg (St.zero.cells none 0).toArray, .bool false]) = .returned (.tuple #[.agg ((ts s.data.toList).cells a c).toArray, .bool (tsOk s.data.toList)]) ∧ OwnI w9 w.heap.size (.slice a (ts s.data.toList).keep.length c) (ts s.data.toList).keep := fun w9 _ => by
          rw [hZ.out, HTO.out]
          exact ⟨none, 0, rfl, World.ownsRow_nil _ _ _ _⟩
        have HF := Lib.hid fin
        clear fin
        by_cases hnil : X.text = []
        · have e8 : (X.text == []) = true := by rw [hnil]; rfl
          clear hnil
          go_wp2_with (first | ((show Go.wpList _ _ _ ((Go.Oper.mk _ (Go.Op.store 79 _ _) _ _ _ _) :: _) _ _); refine wpList_store_mid rfl 79 _ _ rfl w.heap.size 0 (St.zero.cells none 0).toArray rfl rfl T7 infoSt (all_oneCell_toArray (by simp [St.cells, Value.oneCell'])) ?_))
          have hX9 := World.rangeAt_setCells_same w7 w.heap.size 0 (St.zero.cells none 0) T7
          have hL := loadStep _ _ _ hX9 rfl
          refine bodyPost_ret (v := .tuple #[.agg (St.zero.cells none 0).toArray, .bool false]) (by simp only [results, Tryz.results18, Act.put, List.setIfInBounds_toArray, List.set_cons_zero, List.set_cons_succ]; simp [hL, asAddr]) rfl ?_
          exact ⟨HF.out _ rfl, belowSet (Nat.le_refl _) (St.zero.cells none 0) w7 0 B7⟩
        · have e8 : (X.text == []) = false := beq_eq_false_iff_ne.2 hnil
          have e10 : (X.text == s.toList) = false := beqS_no (fun h => by have h2 := congrArg (fun z : ByteArray => z.data.toList) h; exact HT.out ⟨h2, fun h0 => hnil (by rw [← h0]; exact h2)⟩)
          have e9 : (!(X.text == s.toList)) = true := by rw [e10]; rfl
          clear hnil
          go_wp2_with (first | ((show Go.wpList _ _ _ ((Go.Oper.mk _ (Go.Op.store 79 _ _) _ _ _ _) :: _) _ _); refine wpList_store_mid rfl 79 _ _ rfl w.heap.size 0 (St.zero.cells none 0).toArray rfl rfl T7 infoSt (all_oneCell_toArray (by simp [St.cells, Value.oneCell'])) ?_))
          have hX9 := World.rangeAt_setCells_same w7 w.heap.size 0 (St.zero.cells none 0) T7
          have hL := loadStep _ _ _ hX9 rfl
          refine bodyPost_ret (v := .tuple #[.agg (St.zero.cells none 0).toArray, .bool false]) (by simp only [results, Tryz.results18, Act.put, List.setIfInBounds_toArray, List.set_cons_zero, List.set_cons_succ]; simp [hL, asAddr]) rfl ?_
          exact ⟨HF.out _ rfl, belowSet (Nat.le_refl _) (St.zero.cells none 0) w7 0 B7⟩

set_option maxRecDepth 100000 in
set_option maxHeartbeats 6400000 in
theorem textStep_spec (s : ByteArray) (hs : s.size ≤ 1048576) (w : World) : Calls Tryz.prog 37 #[.string s] w fun e w' =>
    (∃ a c, e = .returned (.tuple #[.agg ((ts s.data.toList).cells a c).toArray, .bool (tsOk s.data.toList)]) ∧ OwnI w' w.heap.size (.slice a (ts s.data.toList).keep.length c) (ts s.data.toList).keep) ∧ Below w.heap.size w w' := by
  have hsl : s.data.toList.length = s.size := Array.length_toList
  have hwl : (words s.data.toList).length ≤ s.size + 1 := by have := wordsGo_len s.data.toList []; rw [hsl] at this; exact this
  have hwp := words_pos s.data.toList
  have hmem : ∀ x ∈ words s.data.toList, x.length ≤ 1048576 := fun x hx => by have := wordsGo_mem s.data.toList [] x hx; simp only [List.length_nil] at this; omega
  obtain ⟨W, hW⟩ : ∃ W, W = words s.data.toList := ⟨_, rfl⟩
  rw [← hW] at hwl hwp hmem
  have HW := Lib.hid hW
  have HM : Hid (∀ y ∈ W.map S, y.size ≤ 1048576) := by
    intro y hy
    obtain ⟨x, hx, rfl⟩ := List.mem_map.1 hy
    have := hmem x hx
    simpa [S, ByteArray.size] using this
  have HSL := Lib.hid hsl
  clear hW hmem hsl
  go_enter Tryz.func37, Tryz.ntmps37
  go_wp2_with fail
  refine (parts_spec s hs _).mono ?_
  rintro e w1 ⟨⟨v, rfl, hown⟩, b1⟩
  have B1 := below_via b1 (by (repeat (first | (with_reducible exact Below.refl _ _) | (with_reducible assumption) | (with_reducible refine Below.setCell ?_ ?side _; case side => first | (with_reducible exact Nat.le_refl _) | (simp; done) | (simp only [World.size_alloc, World.size_setCell, World.size_drew, World.heap_drewN] at *; omega)) | (with_reducible refine below_alloc ?_ _) | (with_reducible refine Below.drew ?_) | (with_reducible refine below_drewN ?_) | (with_reducible refine below_via (by assumption) ?_))) : Below w.heap.size w _)
  have z1 : w.heap.size < w1.heap.size := by have := b1.size; simp at this; omega
  have hR0 : Row w.heap.size [.int .i64 0, .int .i64 0, .int .i64 0, .int .i64 0, .int .i64 0, .int .i64 0, .int .i64 0, .bool false, .slice none 0 0, .int .i64 0, .int .i64 0, .int .i64 0, .int .i64 0, .int .i64 0] w1 := Row.keep (Row.new w #[.int .i64 0, .int .i64 0, .int .i64 0, .int .i64 0, .int .i64 0, .int .i64 0, .int .i64 0, .bool false, .slice none 0 0, .int .i64 0, .int .i64 0, .int .i64 0, .int .i64 0, .int .i64 0] 79) (by simp) b1
  rw [← HW.out] at hown
  obtain ⟨a, c, rfl, ho⟩ := OwnF.of (ok := fun s : ByteArray => s.size ≤ 1048576) hown HM.out
  have F : SS w1 w1.heap.size a (W.map S).length (W.map S) := OF.fs lenS ho
  rw [List.length_map] at F
  have hcap := ho.capB
  rw [List.length_map] at hcap
  clear hown ho
  obtain ⟨b, off, y, rfl, hb, -, -, -, -⟩ := FS.at_ F (k := 0) hwp
  obtain ⟨x0, hx0⟩ : ∃ x, W[0]? = some x := ⟨_, List.getElem?_eq_getElem hwp⟩
  have hw0 : Hid (w0 W = x0) := by unfold Hid w0; rw [hx0]; rfl
  have hc0 := SS.cellS F 0 (S x0) (by rw [List.getElem?_map, hx0]; rfl)
  rw [Nat.add_zero] at hc0
  have Hx0 := Lib.hid hx0
  clear hx0
  have HF := Lib.hid F
  have HR0 := Lib.hid hR0
  clear F hR0 b1
  rw [List.length_map]
  go_upto_region 3 with fail
  have own0 := own_made w1 w1.heap.size (Nat.le_refl _)
  have BA := below_alloc (Below.refl _ w1) (.cells #[] 3)
  have FA := FS.keepB HF.out BA (Nat.le_refl _)
  have HFA := Lib.hid FA
  have Hown0 := Lib.hid own0
  have hzA : Hid (w1.heap.size ≤ (w1.alloc (.cells #[] 3)).heap.size) := BA.size
  clear FA own0
  generalize w1.alloc (.cells #[] 3) = wA at *
  go_cut [15, 16, 17] (fun p15 p16 p17 wx => (∃ a' c', p15 = .slice a' (W.length - 1) c' ∧ SS wA w1.heap.size a' (W.length - 1) ((W.drop 1).map S)) ∧ p16 = .int .i64 ((W.length - 1 : Nat) : Int) ∧ p17 = .int .i64 0 ∧ wx = wA)
  case first =>
    have hl1 : (1 : Int) ≤ (W.length : Int) := by omega
    by_cases hc1 : c = 1
    · have hW1 : W.length = 1 := by omega
      have hd : W.drop 1 = [] := List.drop_eq_nil_of_le (by omega)
      have FN : Hid (SS wA w1.heap.size (some ⟨b, off, none⟩) (W.length - 1) ((W.drop 1).map S) ∧ W.length - 1 = 0) := by
        unfold Hid
        rw [hd, hW1]
        exact ⟨FS.nil _ _ _, rfl⟩
      clear hd hW1
      subst hc1
      go_wp2_with fail
      go_meet
      case rel => exact ⟨⟨_, _, by rw [FN.out.2], FN.out.1⟩, by rw [FN.out.2]; rfl, rfl, rfl⟩
    · have FN : SS wA w1.heap.size (some ⟨b, off + 1, none⟩) (W.length - 1) ((W.drop 1).map S) := by
        have := SS.sub HFA.out (i := 1) (n := W.length - 1) (by omega)
        rw [List.take_of_length_le (by rw [List.length_drop, List.length_map]; omega), ← List.map_drop] at this
        exact this
      have HFN := Lib.hid FN
      clear FN
      go_wp2_with fail
      go_meet
      case rel => exact ⟨⟨_, _, rfl, HFN.out⟩, by go_num, rfl, rfl⟩
  case rest =>
  obtain ⟨⟨a', c', rfl, F5⟩, rfl, rfl, rfl⟩ := hcut
  obtain ⟨n, hn⟩ : ∃ n, n = W.length - 1 := ⟨_, rfl⟩
  rw [← hn] at F5 ⊢
  obtain ⟨XS, hXS⟩ : ∃ XS, XS = (W.drop 1).map S := ⟨_, rfl⟩
  rw [← hXS] at F5
  have HXS := Lib.hid hXS
  clear hXS
  have hnl : n ≤ 1048576 := by omega
  have hF5l := F5.1
  have HN := Lib.hid hn
  clear hn
  have HLL := Lib.hid hF5l
  clear hF5l
  go_upto_block 0 with fail
  go_cut [5] (fun l wx => OwnI wx w1.heap.size l (tvals W) ∧ Below w1.heap.size w1 wx)
  case first =>
    go_wp2_with fail
    go_loopw [5, 7, 8, 9, 17] (fun v _ _ _ i wr => ∃ k : Nat, k ≤ n ∧ i = .int .i64 k ∧ OwnI wr w1.heap.size v (numsV (XS.take k)) ∧ Below w1.heap.size w1 wr ∧ Below w1.heap.size wc wr) (fun _ _ _ _ i _ => n - (intOf i).toNat)
    case atStart => exact ⟨0, Nat.zero_le _, rfl, Hown0.out, BA, Below.refl _ _⟩
    case round =>
      obtain ⟨k, hk, rfl, hownk, hB, hBA⟩ := hrel
      have hz := hB.size
      have hkl : (numsV (XS.take k)).length ≤ 1099511627776 := by unfold numsV; rw [List.length_map, List.length_take]; omega
      by_cases hlt : k < n
      · obtain ⟨b2, off2, x, rfl, hb2, hc, hbd, hx, hxs⟩ := (FS.keepB F5 hBA (Nat.le_refl _)).at_ hlt
        have hc0' := hc 0 _ rfl
        simp only [Nat.mul_one, Nat.add_zero] at hc0'
        have hbd2 : x.size ≤ 1048576 := hbd
        have hst : Hid (numsV (XS.take (k + 1)) = numsV (XS.take k) ++ [tg x.data.toList]) := by unfold Hid; rw [hxs.out, numsV_snoc]; rfl
        have htb : -1125899906842624 ≤ tg x.data.toList ∧ tg x.data.toList ≤ 1125899906842624 := tnum_bd _
        clear hbd hc
        go_wp2_with fail
        refine (textNum_spec x (by omega) _).mono ?_
        rintro e w4 ⟨he, b4⟩
        rw [tnV_eq, show (tnum x.data.toList).getD 0 = tg x.data.toList from rfl] at he
        subst he
        generalize tg x.data.toList = y at hst htb ⊢
        generalize (tnum x.data.toList).isSome = z
        have hown2 := keepI hownk b4
        have hB2 := below_via b4 hB
        have hBA2 : Below w1.heap.size wc w4 := hBA.trans (b4.mono hz)
        have hz2 := hB2.size
        go_wp2_with (at_builtin; refine wpList_append_int rfl _ _ rfl w1.heap.size _ _ rfl (hown2.alloc _) _ _ rfl (new_cell0 _ _ _) hkl (Nat.le_trans hz2 (size_alloc_le _ _)) ?_)
        intro v' w5 hown5 hb5
        have a5 := (below_alloc hB2 (.cells #[.int .i64 y] 3)).trans hb5
        have a6 := (hBA2.alloc hz2 (.cells #[.int .i64 y] 3)).trans hb5
        go_wp2
        go_roundw
        case rel => exact ⟨k + 1, by omega, by go_num, by rw [hst.out]; exact hown5, a5, a6⟩
        case measure => simp [intOf]; omega
      · have hall : XS.take k = XS := List.take_of_length_le (by have := HLL.out; omega)
        rw [hall, HXS.out, (allN_nums W).2] at hownk
        clear hall
        go_wp2_with fail
        go_meet
        case rel => exact ⟨hownk, hB⟩
  case rest =>
    obtain ⟨hown, c1⟩ := hcut
    obtain ⟨av, cv, hv5, hv6⟩ : ∃ a c, u5 = .slice a (tvals W).length c ∧ (tvals W).length ≤ c := by
      rcases hown.2 with ⟨h1, h2⟩ | ⟨g, cap, cur, h1, _, _, h3, _⟩
      · exact ⟨none, 0, by rw [h1, h2], by omega⟩
      · exact ⟨_, cap, h1, h3⟩
    subst hv5
    have B2 := below_via c1 B1
    have hcx := cell_keep c1 hc0
    have zc := c1.size
    have bX := below_alloc (Below.refl _ wc) (.cells #[.int .i64 0, .int .i64 0, .int .i64 0, .int .i64 0, .int .i64 0, .int .i64 0, .int .i64 0, .bool false, .slice none 0 0, .int .i64 0, .int .i64 0, .int .i64 0, .int .i64 0, .int .i64 0] 79)
    have hRX := Lib.hid (Row.new wc #[.int .i64 0, .int .i64 0, .int .i64 0, .int .i64 0, .int .i64 0, .int .i64 0, .int .i64 0, .bool false, .slice none 0 0, .int .i64 0, .int .i64 0, .int .i64 0, .int .i64 0, .int .i64 0] 79)
    have R02 := Lib.hid ((Row.keep HR0.out (by simp) c1).keep (by simp) bX)
    have hown2 := Lib.hid (keepI hown bX)
    have hvb : Hid (∀ k, (Value.slice av (tvals W).length cv).ownBlock = some k → k < wc.heap.size) := fun k hk => (hown.lt k hk).2
    have B3 := below_via bX B2
    have hcx2 := cell_keep bX hcx
    have hnb := tvals_bd W
    have HNB := Lib.hid hnb
    clear hc0 hown c1 B1 hcx hnb bX
    obtain ⟨wa, rfl⟩ : ∃ wa : World, wa = wc := ⟨_, rfl⟩
    go_upto_region 10 with fail
    generalize wa.alloc (.cells #[.int .i64 0, .int .i64 0, .int .i64 0, .int .i64 0, .int .i64 0, .int .i64 0, .int .i64 0, .bool false, .slice none 0 0, .int .i64 0, .int .i64 0, .int .i64 0, .int .i64 0, .int .i64 0] 79) = wX at *
    go_upto_block 2 with fail
    go_cut [] (fun wq => ∃ (a : Option Addr) (cp : Nat), Row wa.heap.size ((tsS s.data.toList).cells a cp) wq ∧ OwnI wq w1.heap.size (.slice a (tsS s.data.toList).keep.length cp) (tsS s.data.toList).keep ∧ Row w.heap.size [.int .i64 0, .int .i64 0, .int .i64 0, .int .i64 0, .int .i64 0, .int .i64 0, .int .i64 0, .bool false, .slice none 0 0, .int .i64 0, .int .i64 0, .int .i64 0, .int .i64 0, .int .i64 0] wq ∧ Below w.heap.size w wq)
    case first =>
      have RX := hRX.out
      have RR := R02.out
      have hO := hown2.out
      have zX : wa.heap.size < wX.heap.size := RX.lt (by simp)
      have hTS : Hid (tsS s.data.toList = tsOf x0 (if 5 < s.data.toList.length then tev (s.data.toList.drop 5) else Ev.zero) (tvals W)) := by unfold Hid tsS; rw [← HW.out, hw0.out]
      by_cases h1 : x0 = takeW
      · have e1 : (x0 == [116, 97, 107, 101]) = true := by rw [h1]; rfl
        have r0 := RX.cell 0 _ rfl
        have f0 := RX.fr 0 (by simp)
        have RX1 : Row wa.heap.size [.int .i64 1, .int .i64 0, .int .i64 0, .int .i64 0, .int .i64 0, .int .i64 0, .int .i64 0, .bool false, .slice none 0 0, .int .i64 0, .int .i64 0, .int .i64 0, .int .i64 0, .int .i64 0] (wX.setCell ⟨wa.heap.size, 0, none⟩ (.int .i64 1)) := RX.put 0 [.int .i64 1] (by simp)
        have RR1 : Row w.heap.size [.int .i64 0, .int .i64 0, .int .i64 0, .int .i64 0, .int .i64 0, .int .i64 0, .int .i64 0, .bool false, .slice none 0 0, .int .i64 0, .int .i64 0, .int .i64 0, .int .i64 0, .int .i64 0] (wX.setCell ⟨wa.heap.size, 0, none⟩ (.int .i64 1)) := RR.other (by omega) 0 [.int .i64 1]
        have B4 : Below w.heap.size w (wX.setCell ⟨wa.heap.size, 0, none⟩ (.int .i64 1)) := Below.setCell B3 (by show w.heap.size ≤ wa.heap.size; omega) _
        have HRX1 := Lib.hid RX1
        have HRR1 := Lib.hid RR1
        clear RX1 RR1 RX RR
        by_cases h5 : 5 < s.data.toList.length
        · obtain ⟨E, hE⟩ : ∃ E, E = tev (s.data.toList.drop 5) := ⟨_, rfl⟩
          have hT : Hid (tsS s.data.toList = { St.zero with kind := 1, ev := E }) := by unfold Hid; rw [hTS.out, hE]; unfold tsOf; rw [if_pos h1, if_pos h5]
          have HE := Lib.hid hE
          have h5s : (5 : Int) < (s.size : Int) := by have := HSL.out; omega
          have hex : s.extract 5 s.size = S (s.data.toList.drop 5) := by rw [extract_S, take_all s s.size (Nat.le_refl _)]
          have hsz : (S (s.data.toList.drop 5)).size ≤ 1048576 := by have := HSL.out; show (s.data.toList.drop 5).toArray.size ≤ _; rw [List.size_toArray, List.length_drop]; omega
          clear h1 hE h5
          go_wp2_with fail
          (try rw [hex])
          refine (textEvent_spec (S (s.data.toList.drop 5)) hsz _).mono ?_
          rintro e w5 ⟨rfl, b5⟩
          rw [show (S (s.data.toList.drop 5)).data.toList = s.data.toList.drop 5 from rfl, ← HE.out]
          generalize tevOk (s.data.toList.drop 5) = ok5
          have RX5 := HRX1.out.keep (by simp) b5
          have RR5 := HRR1.out.keep (by simp) b5
          have B5 := below_via b5 B4
          have T2 := RX5.there 1 7 (by simp)
          have HRX5 := Lib.hid RX5
          have HRR5 := Lib.hid RR5
          clear r0 f0 RX5 RR5 b5 hex
          go_wp2_with (first | ((show Go.wpList _ _ _ ((Go.Oper.mk _ (Go.Op.fieldAddr _ _ _) _ _ _ _) :: (Go.Oper.mk _ (Go.Op.store 75 _ _) _ _ _ _) :: _) _ _); refine wpList_plain rfl fun K hK => ?_; go_simp; refine hK _ _ ?_; clear hK) | ((show Go.wpList _ _ _ ((Go.Oper.mk _ (Go.Op.store 75 _ _) _ _ _ _) :: _) _ _); refine wpList_store_mid rfl 75 _ _ rfl wa.heap.size 1 E.enc.toArray rfl rfl T2 infoEv (all_oneCell_toArray (by simp [Ev.enc, Value.oneCell'])) ?_))
          go_meet
          case rel => exact ⟨none, 0, by rw [hT.out]; exact HRX5.out.put 1 E.enc (by simp [Ev.enc]), by rw [hT.out]; exact World.ownsRow_nil _ _ _ _, HRR5.out.other (by omega) 1 E.enc, belowSet (by omega : w.heap.size ≤ wa.heap.size) E.enc w5 1 B5⟩
        · have hT : Hid (tsS s.data.toList = { St.zero with kind := 1 }) := by unfold Hid; rw [hTS.out]; unfold tsOf; rw [if_pos h1, if_neg h5]; rfl
          have h5s : ¬ (5 : Int) < (s.size : Int) := by have := HSL.out; omega
          clear h1 h5
          go_wp2_with fail
          go_meet
          case rel => exact ⟨none, 0, by rw [hT.out]; exact HRX1.out, by rw [hT.out]; exact World.ownsRow_nil _ _ _ _, HRR1.out, B4⟩
      · have e1 : (x0 == [116, 97, 107, 101]) = false := beq_eq_false_iff_ne.2 h1
        by_cases h2 : x0 = syncB
        · have e2 : (x0 == [115, 121, 110, 99]) = true := by rw [h2]; rfl
          have hT : Hid (tsS s.data.toList = { St.zero with kind := 2 }) := by unfold Hid; rw [hTS.out]; unfold tsOf; rw [if_neg h1, if_pos h2]
          have r0 := RX.cell 0 _ rfl
          have f0 := RX.fr 0 (by simp)
          clear h1 h2
          go_wp2_with fail
          go_meet
          case rel => exact ⟨none, 0, by rw [hT.out]; exact RX.put 0 [.int .i64 2] (by simp), by rw [hT.out]; exact World.ownsRow_nil _ _ _ _, RR.other (by omega) 0 [.int .i64 2], Below.setCell B3 (by show w.heap.size ≤ wa.heap.size; omega) _⟩
        · have e2 : (x0 == [115, 121, 110, 99]) = false := beq_eq_false_iff_ne.2 h2
          by_cases h3 : x0 = startB
          · have e3 : (x0 == [115, 116, 97, 114, 116]) = true := by rw [h3]; rfl
            have hT : Hid (tsS s.data.toList = { St.zero with kind := 4 }) := by unfold Hid; rw [hTS.out]; unfold tsOf; rw [if_neg h1, if_neg h2, if_pos h3]
            have r0 := RX.cell 0 _ rfl
            have f0 := RX.fr 0 (by simp)
            clear h1 h2 h3
            go_wp2_with fail
            go_meet
            case rel => exact ⟨none, 0, by rw [hT.out]; exact RX.put 0 [.int .i64 4] (by simp), by rw [hT.out]; exact World.ownsRow_nil _ _ _ _, RR.other (by omega) 0 [.int .i64 4], Below.setCell B3 (by show w.heap.size ≤ wa.heap.size; omega) _⟩
          · have e3 : (x0 == [115, 116, 97, 114, 116]) = false := beq_eq_false_iff_ne.2 h3
            by_cases h4 : x0 = crashB
            · have e4 : (x0 == [99, 114, 97, 115, 104]) = true := by rw [h4]; rfl
              have hT : Hid (tsS s.data.toList = { St.zero with kind := 3, keep := tvals W }) := by unfold Hid; rw [hTS.out]; unfold tsOf; rw [if_neg h1, if_neg h2, if_neg h3, if_pos h4]
              have r0 := RX.cell 0 _ rfl
              have f0 := RX.fr 0 (by simp)
              have r8 := RX.cell 8 _ rfl
              have f8 := RX.fr 8 (by simp)
              have RX3 : Row wa.heap.size [.int .i64 3, .int .i64 0, .int .i64 0, .int .i64 0, .int .i64 0, .int .i64 0, .int .i64 0, .bool false, .slice none 0 0, .int .i64 0, .int .i64 0, .int .i64 0, .int .i64 0, .int .i64 0] (wX.setCell ⟨wa.heap.size, 0, none⟩ (.int .i64 3)) := RX.put 0 [.int .i64 3] (by simp)
              have RX4 := Lib.hid (RX3.put 8 [.slice av (tvals W).length cv] (by simp))
              have RR4 := Lib.hid ((RR.other (show w.heap.size ≠ wa.heap.size by omega) 0 [.int .i64 3]).other (show w.heap.size ≠ wa.heap.size by omega) 8 [.slice av (tvals W).length cv])
              have hO4 := Lib.hid (keepIG (keepIG hO (grown_setCell _ wa.heap.size 0 (.int .i64 3)) (fun h => by have := hvb.out _ h; omega)) (grown_setCell _ wa.heap.size 8 (.slice av (tvals W).length cv)) (fun h => by have := hvb.out _ h; omega))
              clear h1 h2 h3 h4 RX RX3 RR hO
              go_wp2_with fail
              go_meet
              case rel => exact ⟨av, cv, by rw [hT.out]; exact RX4.out, by rw [hT.out]; exact hO4.out, RR4.out, Below.setCell (Below.setCell B3 (by show w.heap.size ≤ wa.heap.size; omega) _) (by show w.heap.size ≤ wa.heap.size; omega) _⟩
            · have e4 : (x0 == [99, 114, 97, 115, 104]) = false := beq_eq_false_iff_ne.2 h4
              by_cases h5 : x0 = turnB
              · have e5 : (x0 == [116, 117, 114, 110]) = true := by rw [h5]; rfl
                have hT : Hid (tsS s.data.toList = rule5 { St.zero with kind := 5 } (tvals W)) := by unfold Hid; rw [hTS.out]; unfold tsOf; rw [if_neg h1, if_neg h2, if_neg h3, if_neg h4, if_pos h5]
                have r0 := RX.cell 0 _ rfl
                have f0 := RX.fr 0 (by simp)
                have RX5 : Row wa.heap.size [.int .i64 5, .int .i64 0, .int .i64 0, .int .i64 0, .int .i64 0, .int .i64 0, .int .i64 0, .bool false, .slice none 0 0, .int .i64 0, .int .i64 0, .int .i64 0, .int .i64 0, .int .i64 0] (wX.setCell ⟨wa.heap.size, 0, none⟩ (.int .i64 5)) := RX.put 0 [.int .i64 5] (by simp)
                have RR5 := Lib.hid (RR.other (show w.heap.size ≠ wa.heap.size by omega) 0 [.int .i64 5])
                have hO5 := Lib.hid (keepIG hO (grown_setCell _ wa.heap.size 0 (.int .i64 5)) (fun h => by have := hvb.out _ h; omega))
                clear h1 h2 h3 h4 h5
                by_cases hn5 : (tvals W).length = 5
                · have hn5i : (((tvals W).length : Int) == 5) = true := by rw [hn5]; rfl
                  obtain ⟨n0, n1, n2, n3, n4, hns⟩ : ∃ n0 n1 n2 n3 n4, tvals W = [n0, n1, n2, n3, n4] := by
                    match tvals W, hn5 with
                    | [n0, n1, n2, n3, n4], _ => exact ⟨n0, n1, n2, n3, n4, rfl⟩
                  rw [hns] at hO5
                  have I5 := OwnI.is hO5.out (fun n hn => by have := HNB.out n (by rw [hns]; exact hn); omega)
                  obtain ⟨a', c', ev, I5⟩ := I5
                  injection ev with ev1 ev2 ev3
                  subst ev1
                  obtain ⟨g5, o5, q0, rfl, hb0, d0, -, hq0, -⟩ := IS.at_ I5 (k := 0) (by simp)
                  cases hq0.out
                  have d1 := IS.cell I5 1 n1 rfl
                  have d2 := IS.cell I5 2 n2 rfl
                  have d3 := IS.cell I5 3 n3 rfl
                  have d4 := IS.cell I5 4 n4 rfl
                  simp only [Nat.add_zero] at d0
                  rw [hns] at hT
                  have r9 := RX5.cell 9 _ rfl
                  have r10 := RX5.cell 10 _ rfl
                  have r11 := RX5.cell 11 _ rfl
                  have r12 := RX5.cell 12 _ rfl
                  have r13 := RX5.cell 13 _ rfl
                  have f9 := RX5.fr 9 (by simp)
                  have f10 := RX5.fr 10 (by simp)
                  have f11 := RX5.fr 11 (by simp)
                  have f12 := RX5.fr 12 (by simp)
                  have f13 := RX5.fr 13 (by simp)
                  have HRX5 := Lib.hid RX5
                  have hg5 : g5 ≠ wa.heap.size := by have := hvb.out g5 rfl; omega
                  have hg6 : ¬ wa.heap.size = g5 := by have := hvb.out g5 rfl; omega
                  have hN0 : 0 < (tvals W).length := by omega
                  have hN1 : 1 < (tvals W).length := by omega
                  have hN2 : 2 < (tvals W).length := by omega
                  have hN3 : 3 < (tvals W).length := by omega
                  have hN4 : 4 < (tvals W).length := by omega
                  have hl0 : (0 : Int) < ((tvals W).length : Int) := by omega
                  have hl1 : (1 : Int) < ((tvals W).length : Int) := by omega
                  have hl2 : (2 : Int) < ((tvals W).length : Int) := by omega
                  have hl3 : (3 : Int) < ((tvals W).length : Int) := by omega
                  have hl4 : (4 : Int) < ((tvals W).length : Int) := by omega
                  clear RX RX5 I5 ev2 ev3 hns hn5 RR hO
                  have KX : Row wa.heap.size [.int .i64 5, .int .i64 0, .int .i64 0, .int .i64 0, .int .i64 0, .int .i64 0, .int .i64 0, .bool false, .slice none 0 0, .int .i64 n0, .int .i64 n1, .int .i64 n2, .int .i64 n3, .int .i64 n4] ((((((wX.setCell ⟨wa.heap.size, 0, none⟩ (.int .i64 5)).setCell ⟨wa.heap.size, 9, none⟩ (.int .i64 n0)).setCell ⟨wa.heap.size, 10, none⟩ (.int .i64 n1)).setCell ⟨wa.heap.size, 11, none⟩ (.int .i64 n2)).setCell ⟨wa.heap.size, 12, none⟩ (.int .i64 n3)).setCell ⟨wa.heap.size, 13, none⟩ (.int .i64 n4)) := HRX5.out.put 9 [.int .i64 n0, .int .i64 n1, .int .i64 n2, .int .i64 n3, .int .i64 n4] (by simp)
                  have KR : Row w.heap.size [.int .i64 0, .int .i64 0, .int .i64 0, .int .i64 0, .int .i64 0, .int .i64 0, .int .i64 0, .bool false, .slice none 0 0, .int .i64 0, .int .i64 0, .int .i64 0, .int .i64 0, .int .i64 0] ((((((wX.setCell ⟨wa.heap.size, 0, none⟩ (.int .i64 5)).setCell ⟨wa.heap.size, 9, none⟩ (.int .i64 n0)).setCell ⟨wa.heap.size, 10, none⟩ (.int .i64 n1)).setCell ⟨wa.heap.size, 11, none⟩ (.int .i64 n2)).setCell ⟨wa.heap.size, 12, none⟩ (.int .i64 n3)).setCell ⟨wa.heap.size, 13, none⟩ (.int .i64 n4)) := RR5.out.other (show w.heap.size ≠ wa.heap.size by omega) 9 [.int .i64 n0, .int .i64 n1, .int .i64 n2, .int .i64 n3, .int .i64 n4]
                  have KB : Below w.heap.size w ((((((wX.setCell ⟨wa.heap.size, 0, none⟩ (.int .i64 5)).setCell ⟨wa.heap.size, 9, none⟩ (.int .i64 n0)).setCell ⟨wa.heap.size, 10, none⟩ (.int .i64 n1)).setCell ⟨wa.heap.size, 11, none⟩ (.int .i64 n2)).setCell ⟨wa.heap.size, 12, none⟩ (.int .i64 n3)).setCell ⟨wa.heap.size, 13, none⟩ (.int .i64 n4)) := belowSet (by omega : w.heap.size ≤ wa.heap.size) [.int .i64 n0, .int .i64 n1, .int .i64 n2, .int .i64 n3, .int .i64 n4] _ 9 (Below.setCell B3 (by show w.heap.size ≤ wa.heap.size; omega) _)
                  have HK := Lib.hid (And.intro KX (And.intro KR KB))
                  clear KX KR KB HRX5 RR5
                  go_wp2_with fail
                  go_region_held3 (fun w' => w'.cell? ⟨g5, o5, none⟩ = some (.int .i64 n0) ∧ w'.cell? ⟨g5, o5 + 1, none⟩ = some (.int .i64 n1) ∧ w'.cell? ⟨g5, o5 + 2, none⟩ = some (.int .i64 n2) ∧ w'.cell? ⟨g5, o5 + 3, none⟩ = some (.int .i64 n3) ∧ w'.cell? ⟨g5, o5 + 4, none⟩ = some (.int .i64 n4)) (go_keep) (first | fail)
                  all_goals
                    obtain ⟨KX, KR, KB⟩ := HK.out
                    go_wp2_with fail
                    go_meet
                    case rel =>
                      refine ⟨none, 0, ?_, by rw [hT.out]; exact World.ownsRow_nil _ _ _ _, ?_, ?_⟩
                      · rw [hT.out]
                        exact Row.drew KX
                      · exact Row.drew KR
                      · exact Below.drew KB
                · have hn5i : (((tvals W).length : Int) == 5) = false := beq_eq_false_iff_ne.2 (by omega)
                  have hT2 : Hid (tsS s.data.toList = { St.zero with kind := 5 }) := by
                    unfold Hid
                    rw [hT.out]
                    unfold rule5
                    split
                    · rename_i e; rw [e] at hn5; exact absurd rfl hn5
                    · rfl
                  have HRX5 := Lib.hid RX5
                  clear RX RX5 RR hO hn5
                  go_wp2_with fail
                  go_meet
                  case rel => exact ⟨none, 0, by rw [hT2.out]; exact HRX5.out, by rw [hT2.out]; exact World.ownsRow_nil _ _ _ _, RR5.out, Below.setCell B3 (by show w.heap.size ≤ wa.heap.size; omega) _⟩
              · have e5 : (x0 == [116, 117, 114, 110]) = false := beq_eq_false_iff_ne.2 h5
                have hT : Hid (tsS s.data.toList = St.zero) := by unfold Hid; rw [hTS.out]; unfold tsOf; rw [if_neg h1, if_neg h2, if_neg h3, if_neg h4, if_neg h5]
                clear h1 h2 h3 h4 h5
                go_wp2_with fail
                go_meet
                case rel => exact ⟨none, 0, by rw [hT.out]; exact RX, by rw [hT.out]; exact World.ownsRow_nil _ _ _ _, RR, B3⟩
    case rest =>
      obtain ⟨a2, cp2, RX, hO, RR, hB⟩ := hcut
      obtain ⟨X, hX⟩ : ∃ X, X = tsS s.data.toList := ⟨_, rfl⟩
      rw [← hX] at RX hO
      have HX := Lib.hid hX
      have hkl : Hid (X.keep.length ≤ 1048576 ∧ ∀ n ∈ X.keep, -1125899906842624 ≤ n ∧ n ≤ 1125899906842624) := by
        have h0 : X.keep = tvals W ∨ X.keep = [] := by
          rw [hX]
          unfold tsS tsOf
          rw [← HW.out]
          split
          · exact .inr rfl
          · split
            · exact .inr rfl
            · split
              · exact .inr rfl
              · split
                · exact .inl rfl
                · split
                  · unfold rule5; split <;> exact .inr rfl
                  · exact .inr rfl
        have hnl : (tvals W).length ≤ 1048576 := by
          unfold tvals; rw [List.length_map, List.length_drop]; omega
        rcases h0 with h0 | h0
        · rw [h0]; exact ⟨hnl, HNB.out⟩
        · rw [h0]; exact ⟨Nat.zero_le _, by simp⟩
      have I0 := OwnI.is hO (fun n hn => by have := hkl.out.2 n hn; omega)
      obtain ⟨a3, c3, ev, I0⟩ := I0
      injection ev with ev1 ev2 ev3
      subst ev1
      have G2 := RX.range
      have HRX := Lib.hid RX
      have HRR := Lib.hid RR
      have HO := Lib.hid hO
      have hXt : X.text = stText X.kind X.ev.kind X.ev.key X.ev.ch X.ev.to X.ev.amt X.ev.fee X.ev.yes X.keep X.lo X.hi X.step X.mn X.mx := rfl
      have HXt := Lib.hid hXt
      clear ev2 ev3 hX RX RR hO hXt hRX R02 hown2 HNB
      have hfz : Hid (tsOk s.data.toList = false → ∀ (w9 : World), ∃ a c, Ending.returned (.tuple #[.agg (St.zero.cells none 0).toArray, .bool false]) = .returned (.tuple #[.agg ((ts s.data.toList).cells a c).toArray, .bool (tsOk s.data.toList)]) ∧ OwnI w9 w.heap.size (.slice a (ts s.data.toList).keep.length c) (ts s.data.toList).keep) := fun h w9 => by
        rw [ts_no h, h]
        exact ⟨none, 0, rfl, World.ownsRow_nil _ _ _ _⟩
      by_cases hnil : s.data.toList = []
      · have hto : tsOk s.data.toList = false := decide_eq_false fun h => h.2 hnil
        have HF := Lib.hid (hfz.out hto)
        have e8c : s.toList = [] := by rw [ByteArray.toList_eq]; exact hnil
        have e8 : (s.toList == []) = true := by rw [e8c]; rfl
        have e8b : s.toList.isEmpty = true := by rw [e8c]; rfl
        have T7 := HRR.out.there 0 14 (by simp)
        have B7 := hB
        clear hto hnil
        go_wp2_with (first | ((show Go.wpList _ _ _ ((Go.Oper.mk _ (Go.Op.store 79 _ _) _ _ _ _) :: _) _ _); refine wpList_store_mid rfl 79 _ _ rfl w.heap.size 0 (St.zero.cells none 0).toArray rfl rfl T7 infoSt (all_oneCell_toArray (by simp [St.cells, Value.oneCell'])) ?_))
        have hX9 := World.rangeAt_setCells_same wc w.heap.size 0 (St.zero.cells none 0) T7
        have hL := loadStep _ _ _ hX9 rfl
        refine bodyPost_ret (v := .tuple #[.agg (St.zero.cells none 0).toArray, .bool false]) (by simp only [results, Tryz.results37, Act.put, List.setIfInBounds_toArray, List.set_cons_zero, List.set_cons_succ]; simp [hL, asAddr]) rfl ?_
        exact ⟨HF.out _, belowSet (Nat.le_refl _) (St.zero.cells none 0) wc 0 B7⟩
      · have e8c : ¬ s.toList = [] := fun h => hnil (by rw [ByteArray.toList_eq] at h; exact h)
        have e8 : (s.toList == []) = false := beq_eq_false_iff_ne.2 e8c
        have e8b : s.toList.isEmpty = false := by cases h : s.toList with | nil => exact absurd h e8c | cons => rfl
        have Hnil := Lib.hid hnil
        clear hnil
        have g0 := HRX.out.cell 0 _ rfl
        have g1 := HRX.out.cell 1 _ rfl
        have g2 := HRX.out.cell 2 _ rfl
        have g3 := HRX.out.cell 3 _ rfl
        have g4 := HRX.out.cell 4 _ rfl
        have g5 := HRX.out.cell 5 _ rfl
        have g6 := HRX.out.cell 6 _ rfl
        have g7 := HRX.out.cell 7 _ rfl
        have g8 := HRX.out.cell 8 _ rfl
        have g9 := HRX.out.cell 9 _ rfl
        have g10 := HRX.out.cell 10 _ rfl
        have g11 := HRX.out.cell 11 _ rfl
        have g12 := HRX.out.cell 12 _ rfl
        have g13 := HRX.out.cell 13 _ rfl
        go_wp2_with fail
        refine (stText_spec X.kind X.ev.kind X.ev.key X.ev.ch X.ev.to X.ev.amt X.ev.fee X.ev.yes a2 X.keep.length cp2 X.keep X.lo X.hi X.step X.mn X.mx _ I0 hkl.out.1).mono ?_
        rintro e w7 ⟨rfl, b7⟩
        rw [← HXt.out]
        have B7 := below_via b7 hB
        have RX7 := HRX.out.keep (by simp [St.cells]) b7
        have RR7 := HRR.out.keep (by simp) b7
        have O7 := Lib.hid (keepI HO.out b7)
        have G7 := RX7.range
        have T7 := RR7.there 0 14 (by simp)
        have hok : Hid (decide (X.text = s.data.toList ∧ s.data.toList ≠ []) = tsOk s.data.toList ∧ (tsOk s.data.toList = true → X = ts s.data.toList)) := by
          have h := ts_same s.data.toList
          rw [← HX.out] at h
          exact ⟨h.1, fun h1 => (h.2 h1).trans (ts_yes h1).symm⟩
        clear G2 I0 hB RX7 RR7 b7 g0 g1 g2 g3 g4 g5 g6 g7 g8 g9 g10 g11 g12 g13
        cases hto : tsOk s.data.toList with
        | true =>
          have hT := of_decide_eq_true (hok.out.1.trans hto)
          have HT := Lib.hid (hok.out.2 hto)
          have HTO := Lib.hid hto
          have e10 : (X.text == s.toList) = true := beqS_yes (by rw [hT.1])
          have e9 : (!(X.text == s.toList)) = false := by rw [e10]; rfl
          clear hT hto
          go_wp2_with (first
            | ((show Go.wpList _ _ _ ((Go.Oper.mk _ (Go.Op.load 79 _) _ _ _ _) :: _) _ _); refine wpList_load_mid rfl 79 _ rfl wa.heap.size 0 rfl (X.cells a2 cp2) _ G7 Tryz.underlying79 rfl infoSt ?_)
            | ((show Go.wpList _ _ _ ((Go.Oper.mk _ (Go.Op.store 79 _ _) _ _ _ _) :: _) _ _); refine wpList_store_mid rfl 79 _ _ rfl w.heap.size 0 (X.cells a2 cp2).toArray rfl rfl T7 infoSt (all_oneCell_toArray (by simp [St.cells, Value.oneCell'])) ?_))
          have hX9 := World.rangeAt_setCells_same w7 w.heap.size 0 (X.cells a2 cp2) T7
          have hL := loadStep _ _ _ hX9 rfl
          refine bodyPost_ret (v := .tuple #[.agg (X.cells a2 cp2).toArray, .bool true]) (by simp only [results, Tryz.results37, Act.put, List.setIfInBounds_toArray, List.set_cons_zero, List.set_cons_succ]; simp [hL, asAddr]) rfl ?_
          rw [← HT.out, HTO.out]
          exact ⟨⟨a2, cp2, rfl, OwnI.leB (keepIG O7.out (grown_setCells w.heap.size (X.cells a2 cp2) 0 w7) (fun h => by have := (O7.out.lt _ h).1; omega)) (by omega)⟩, belowSet (Nat.le_refl _) (X.cells a2 cp2) w7 0 B7⟩
        | false =>
          have hT := of_decide_eq_false (hok.out.1.trans hto)
          have HF := Lib.hid (hfz.out hto)
          have e10 : (X.text == s.toList) = false := beqS_no (fun h => hT ⟨congrArg (fun z : ByteArray => z.data.toList) h, Hnil.out⟩)
          have e9 : (!(X.text == s.toList)) = true := by rw [e10]; rfl
          have HTO := Lib.hid hto
          clear hT hto
          go_wp2_with (first | ((show Go.wpList _ _ _ ((Go.Oper.mk _ (Go.Op.store 79 _ _) _ _ _ _) :: _) _ _); refine wpList_store_mid rfl 79 _ _ rfl w.heap.size 0 (St.zero.cells none 0).toArray rfl rfl T7 infoSt (all_oneCell_toArray (by simp [St.cells, Value.oneCell'])) ?_))
          have hX9 := World.rangeAt_setCells_same w7 w.heap.size 0 (St.zero.cells none 0) T7
          have hL := loadStep _ _ _ hX9 rfl
          refine bodyPost_ret (v := .tuple #[.agg (St.zero.cells none 0).toArray, .bool false]) (by simp only [results, Tryz.results37, Act.put, List.setIfInBounds_toArray, List.set_cons_zero, List.set_cons_succ]; simp [hL, asAddr]) rfl ?_
          rw [HTO.out]
          exact ⟨by have := HF.out (w7.setCells w.heap.size 0 (St.zero.cells none 0)); rw [HTO.out] at this; exact this, belowSet (Nat.le_refl _) (St.zero.cells none 0) w7 0 B7⟩

end Go.Proofs.YtafbdbefmlgioaaGreatDoor
