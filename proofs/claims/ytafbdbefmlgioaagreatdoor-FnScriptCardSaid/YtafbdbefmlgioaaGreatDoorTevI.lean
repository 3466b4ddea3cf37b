/- Events read: the program. -/
import Derived.Test.YtafbdbefmlgioaaGreatDoorTevT
import Derived.Test.YtafbdbefmlgioaaGreatDoorRow
namespace Go.Proofs.YtafbdbefmlgioaaGreatDoor
open Go.RowKit
set_option linter.unusedVariables false
set_option linter.unusedSimpArgs false

set_option maxRecDepth 100000 in
set_option maxHeartbeats 6400000 in
theorem textEvent_impl (s : ByteArray) (hs : s.size ≤ 1048576) (w : World) (T0 : LV w) : Calls Tryz.prog 51 #[.string s] w fun e w' => e = .returned (.tuple #[.agg (tev s.data.toList).enc.toArray, .bool (tevOk s.data.toList)]) ∧ Below w.heap.size w w' := by
  have hsl : s.data.toList.length = s.size := Array.length_toList
  have hwl : (words s.data.toList).length ≤ s.size + 1 := by have := wordsGo_len s.data.toList []; rw [hsl] at this; exact this
  have hwp := words_pos s.data.toList
  have hmem : ∀ x ∈ words s.data.toList, x.length ≤ 1048576 := fun x hx => by have := wordsGo_mem s.data.toList [] x hx; simp only [List.length_nil] at this; omega
  obtain ⟨W, hW⟩ : ∃ W, W = words s.data.toList := ⟨_, rfl⟩
  rw [← hW] at hwl hwp hmem
  have HW := Lib.hid hW
  have HM : Hid (∀ y ∈ W.map S, y.size ≤ 1048576) := by
    intro y hy
    obtain ⟨x, hx, rfl⟩ := List.mem_map.1 hy
    have := hmem x hx
    simpa [S, ByteArray.size] using this
  have HSL := Lib.hid hsl
  clear hW hmem hsl
  go_enter Tryz.func51, Tryz.ntmps51
  go_wp2_with fail
  refine (split_impl s hs _ (T0.keep (by (repeat (first | (with_reducible exact Below.refl _ _) | (with_reducible assumption) | (with_reducible refine Below.setCell ?_ ?side _; case side => first | (with_reducible exact Nat.le_refl _) | (simp; done) | (simp only [World.size_alloc, World.size_setCell, World.size_drew, World.heap_drewN] at *; omega)) | (with_reducible refine below_alloc ?_ _) | (with_reducible refine Below.drew ?_) | (with_reducible refine below_drewN ?_) | (with_reducible refine below_via (by assumption) ?_)))))).mono ?_
  rintro e w1 ⟨⟨v, rfl, hown⟩, b1⟩
  have B1 := below_via b1 (by (repeat (first | (with_reducible exact Below.refl _ _) | (with_reducible assumption) | (with_reducible refine Below.setCell ?_ ?side _; case side => first | (with_reducible exact Nat.le_refl _) | (simp; done) | (simp only [World.size_alloc, World.size_setCell, World.size_drew, World.heap_drewN] at *; omega)) | (with_reducible refine below_alloc ?_ _) | (with_reducible refine Below.drew ?_) | (with_reducible refine below_drewN ?_) | (with_reducible refine below_via (by assumption) ?_))) : Below w.heap.size w _)
  have z1 : w.heap.size < w1.heap.size := by have := b1.size; simp at this; omega
  have hR0 : Row w.heap.size [.int .i64 0, .int .i64 0, .int .i64 0, .int .i64 0, .int .i64 0, .int .i64 0, .bool false] w1 := Row.keep (Row.new w #[.int .i64 0, .int .i64 0, .int .i64 0, .int .i64 0, .int .i64 0, .int .i64 0, .bool false] 75) (by simp) b1
  have T1 := T0.keep B1
  rw [← HW.out] at hown
  obtain ⟨a, c, rfl, ho⟩ := OwnF.of (ok := fun s : ByteArray => s.size ≤ 1048576) hown HM.out
  have F : SS w1 w1.heap.size a (W.map S).length (W.map S) := OF.fs lenS ho
  rw [List.length_map] at F
  have hcap := ho.capB
  rw [List.length_map] at hcap
  clear hown ho
  obtain ⟨b, off, y, rfl, hb, -, -, -, -⟩ := FS.at_ F (k := 0) hwp
  obtain ⟨x0, hx0⟩ : ∃ x, W[0]? = some x := ⟨_, List.getElem?_eq_getElem hwp⟩
  have hw0 : Hid (w0 W = x0) := by unfold Hid w0; rw [hx0]; rfl
  have hc0 := SS.cellS F 0 (S x0) (by rw [List.getElem?_map, hx0]; rfl)
  rw [Nat.add_zero] at hc0
  have Hx0 := Lib.hid hx0
  clear hx0
  have HF := Lib.hid F
  have HR0 := Lib.hid hR0
  clear F hR0 b1
  rw [List.length_map]
  go_wp2_with fail
  refine (splitWords2 _ (T1.keep (by (repeat (first | (with_reducible exact Below.refl _ _) | (with_reducible assumption) | (with_reducible refine Below.setCell ?_ ?side _; case side => first | (with_reducible exact Nat.le_refl _) | (simp; done) | (simp only [World.size_alloc, World.size_setCell, World.size_drew, World.heap_drewN] at *; omega)) | (with_reducible refine below_alloc ?_ _) | (with_reducible refine Below.drew ?_) | (with_reducible refine below_drewN ?_) | (with_reducible refine below_via (by assumption) ?_))))).mx).mono ?_
  rintro e w2 ⟨⟨g2, o2, c2, rfl, hg2, cw⟩, b2⟩
  have c12 : Below w1.heap.size w1 w2 := below_via b2 (by (repeat (first | (with_reducible exact Below.refl _ _) | (with_reducible assumption) | (with_reducible refine Below.setCell ?_ ?side _; case side => first | (with_reducible exact Nat.le_refl _) | (simp; done) | (simp only [World.size_alloc, World.size_setCell, World.size_drew, World.heap_drewN] at *; omega)) | (with_reducible refine below_alloc ?_ _) | (with_reducible refine Below.drew ?_) | (with_reducible refine below_drewN ?_) | (with_reducible refine below_via (by assumption) ?_))))
  have R2 : Row w1.heap.size [.int .i64 0, .int .i64 0, .int .i64 0, .int .i64 0, .int .i64 0, .int .i64 0, .bool false] w2 := Row.keep (Row.new w1 #[.int .i64 0, .int .i64 0, .int .i64 0, .int .i64 0, .int .i64 0, .int .i64 0, .bool false] 75) (by simp) b2
  have F2 := FS.keepB HF.out c12 (Nat.le_refl _)
  have B2 := below_via c12 B1
  have T2 := T1.keep c12
  have R02 := Lib.hid (Row.keep HR0.out (by simp) c12)
  have z2 : w1.heap.size < w2.heap.size := R2.lt (by simp)
  have hc02 := cell_keep c12 hc0
  have HF2 := Lib.hid F2
  clear hc0 b2 c12 HF F2
  have hgne : g2 ≠ w1.heap.size := by simp at hg2; omega
  have hbne : b ≠ w1.heap.size := by omega
  clear hg2 hb
  have Hw0 := Lib.hid hw0.out
  go_wp2_with fail
  go_loopw [6, 7, 15] (fun _ _ i wr => ∃ k : Nat, k ≤ 12 ∧ i = .int .i64 k ∧ Row w1.heap.size [.int .i64 (kw x0 k : Nat), .int .i64 0, .int .i64 0, .int .i64 0, .int .i64 0, .int .i64 0, .bool false] wr ∧ w2.grownBy wr (some w1.heap.size)) (fun _ _ i _ => 12 - (intOf i).toNat)
  case atStart => exact ⟨0, Nat.zero_le _, rfl, R2, World.grownBy.refl _ _⟩
  case round =>
    obtain ⟨k, hk, rfl, R, hG⟩ := hrel
    have zG := hG.size
    by_cases hlt : k < 12
    · have ck : wr.cell? ⟨g2, o2 + k, none⟩ = some (.string (S (evWord k))) := hG.cell (cw k hlt) (by intro h; injection h with h; exact hgne h)
      have cb : wr.cell? ⟨b, off, none⟩ = some (.string (S x0)) := hG.cell hc02 (by intro h; injection h with h; exact hbne h)
      have r0 := R.cell 0 _ rfl
      have f0 := R.fr 0 (by simp)
      have HC := Lib.hid cw
      clear cw
      by_cases he : evWord (k : Int) = x0
      · have e1 : (evWord (k : Int) == x0) = true := by rw [he]; exact beq_self_eq_true _
        have hk1 := Lib.hid (kw_yes hlt he)
        clear he
        go_wp2
        go_roundw
        case rel => exact ⟨k + 1, by omega, by go_num, by rw [hk1.out]; exact R.put 0 [.int .i64 k] (by simp), grown_trans hG (grown_setCell _ _ _ _)⟩
        case measure => simp [intOf]; omega
      · have e1 : (evWord (k : Int) == x0) = false := beq_eq_false_iff_ne.2 he
        have hk1 := Lib.hid (kw_no hlt he)
        clear he
        go_wp2
        go_roundw
        case rel => exact ⟨k + 1, by omega, by go_num, by rw [hk1.out]; exact R, hG⟩
        case measure => simp [intOf]; omega
    · obtain rfl : k = 12 := by omega
      clear cw
      obtain ⟨kd, hkd⟩ : ∃ kd, kd = kw x0 12 := ⟨_, rfl⟩
      rw [← hkd] at R
      have HKD := Lib.hid hkd
      clear hkd hk hlt
      have BG := B2.trans (grown_below_of hG (by omega : w.heap.size ≤ w1.heap.size) B2.size)
      go_wp2_with fail
      refine (numbers_impl kd w1.heap.size _ (R.cell 0 _ rfl) (R.lt (by simp))).mono ?_
      rintro e w3 ⟨⟨a3, rfl, F3, ha3⟩, b3⟩
      have hlr := R.lt (by simp)
      have hR3 := Row.keep R (by simp) b3
      have R03 := Lib.hid ((R02.out.keepG (by simp) hG (by omega)).keep (by simp) b3)
      clear R02
      have B3 := below_via b3 BG
      have T3 := T0.keep B3
      have z3 := b3.size
      have F3w := FS.keepB (FS.keepG HF2.out hG (Nat.le_refl _)) b3 (by omega)
      have hb1 : b < w1.heap.size := by obtain ⟨b', o', x, e, h, -⟩ := FS.at_ F3w (k := 0) hwp; injection e with e; injection e with e1; subst e1; exact h
      replace ha3 : ∀ b o, a3 = some ⟨b, o, none⟩ → b ≠ w1.heap.size := fun b o h => by have := ha3 b o h; omega
      have HA3 := Lib.hid ha3
      obtain ⟨V, hV⟩ : ∃ V, V = tvals W := ⟨_, rfl⟩
      have HV : Hid (∀ (k : Nat) (x : List UInt8), W[k + 1]? = some x → V[k]? = some (tg x)) := fun k x hx => by
        rw [hV]
        unfold tvals
        rw [List.getElem?_map, List.getElem?_drop, Nat.add_comm 1 k, hx]
        rfl
      have hVl : V.length = W.length - 1 := by rw [hV]; unfold tvals; rw [List.length_map, List.length_drop]
      have HVe := Lib.hid hV
      obtain ⟨P, hP⟩ : ∃ P, P = sel (hasF (kd : Int)) [1, 2, 3, 4, 5] := ⟨_, rfl⟩
      rw [← hP] at F3
      rw [← hP]
      have HPw : Hid (∀ (k j : Nat), P[k]? = some j → 1 ≤ j ∧ j ≤ 5 ∧ (hasF (kd : Int))[j - 1]? = some true ∧ cnt ((hasF (kd : Int)).take (j - 1)) = k) := fun k j h => sel_where5 (by rw [← hP]; exact h)
      have HPe := Lib.hid hP
      have hPl : P.length ≤ 5 := by rw [hP]; exact sel_len _ _
      have HVl := Lib.hid hVl
      have R3 : Row w1.heap.size (evL (kd : Int) (hasF (kd : Int)) (V.take 0) false) w3 := by rw [List.take_zero, evL_zero]; exact hR3
      clear hR3 R hG BG b3 hV hP hVl ha3 R2 hc02 z3 B1 T1 T2 B2
      go_wp2_with fail
      go_loopw [8, 9, 30] (fun _ _ i wr => ∃ k : Nat, k ≤ P.length ∧ i = .int .i64 k ∧ Row w1.heap.size (evL (kd : Int) (hasF (kd : Int)) (V.take k) false) wr ∧ w3.grownBy wr (some w1.heap.size)) (fun _ _ i _ => P.length - (intOf i).toNat)
      case atStart => exact ⟨0, Nat.zero_le _, rfl, R3, World.grownBy.refl _ _⟩
      case round =>
        obtain ⟨k, hk, rfl, R, hG⟩ := hrel
        by_cases hlt : k < P.length
        · obtain ⟨b', off', j, rfl, hb', hcj, -, hj, -⟩ := FS.at_ F3 hlt
          have hcj := hcj 0 _ rfl
          rw [show off' + k * 1 + 0 = off' + k by omega] at hcj
          have hcj2 := hG.cell hcj (by intro h; injection h with h; exact HA3.out _ _ rfl h)
          obtain ⟨j1, j5, jh, jc⟩ := HPw.out k j hj.out
          obtain ⟨u, hu⟩ : ∃ u, (evL (kd : Int) (hasF (kd : Int)) (V.take k) false)[j]? = some u := ⟨_, List.getElem?_eq_getElem (by simp [evL]; omega)⟩
          have HJ := Lib.hid (And.intro jh jc)
          clear hcj jh jc
          by_cases hin : k + 1 < W.length
          · obtain ⟨x, hx⟩ : ∃ x, W[k + 1]? = some x := ⟨_, List.getElem?_eq_getElem hin⟩
            have hcx := SS.cellS (FS.keepG F3w hG (Nat.le_refl _)) (k + 1) (S x) (by rw [List.getElem?_map, hx]; rfl)
            have hxs : (S x).size ≤ 1048576 := HM.out (S x) (List.mem_map.2 ⟨x, List.mem_of_getElem? hx, rfl⟩)
            have hvk := Lib.hid (HV.out k x hx)
            clear hx
            have hBr := B3.trans (grown_below_of hG (by omega : w.heap.size ≤ w1.heap.size) B3.size)
            have TK := T0.keep hBr
            clear T3
            go_wp2_with fail
            refine (textNum_impl (S x) (by omega) _ TK).mono ?_
            rintro e w4 ⟨he, b4⟩
            rw [tnV_eq, show (S x).data.toList = x from rfl, show (tnum x).getD 0 = tg x from rfl] at he
            subst he
            have R4 := R.keep (by simp [evL]) b4
            have c4 := R4.cell j u hu
            have f4 := R4.fr j (by simp [evL]; omega)
            have hG4 := grown_trans hG (grown_of_below w1.heap.size b4)
            have hl4 := R4.lt (by simp [evL])
            have HR4 := Lib.hid R4
            generalize tg x = y at hvk ⊢
            generalize (tnum x).isSome = z
            clear R R4 hcx hcj2
            go_wp2_with fail
            go_roundw
            case rel => exact ⟨k + 1, by omega, by go_num, by have := HR4.out.put j [.int .i64 y] (by simp [evL]; omega); rw [evL_put j1 j5 HJ.out.1 HJ.out.2 hvk.out] at this; exact this, grown_trans hG4 (grown_setCell _ _ _ _)⟩
            case measure => simp [intOf]; omega
          · have hno : ¬ ((k : Int) + 1 < (W.length : Int)) := by omega
            have hmore := Lib.hid (evL_more (kd := (kd : Int)) (h := hasF (kd : Int)) (v := V) (y := false) (k := k) (by have := HVl.out; omega))
            go_wp2_with fail
            go_roundw
            case rel => exact ⟨k + 1, by omega, by go_num, by rw [hmore.out]; exact R, hG⟩
            case measure => simp [intOf]; omega
        · have hk2 : P.length ≤ k := by omega
          have hall := evL_all (kd := (kd : Int)) (h := hasF (kd : Int)) (v := V) (y := false) (k := k) (by rw [← HPe.out]; exact hk2)
          rw [hall] at R
          clear hall hk2
          have hBr := B3.trans (grown_below_of hG (by omega : w.heap.size ≤ w1.heap.size) B3.size)
          have TK := T0.keep hBr
          have hwl1 : (lastW W).length ≤ 1048576 ∧ W[W.length - 1]? = some (lastW W) := by
            have hq : W[W.length - 1]? = some (W[W.length - 1]'(by omega)) := List.getElem?_eq_getElem (by omega)
            unfold lastW
            rw [hq]
            refine ⟨?_, rfl⟩
            have := HM.out (S _) (List.mem_map.2 ⟨_, List.mem_of_getElem? hq, rfl⟩)
            simpa [S, ByteArray.size] using this
          have hcl := SS.cellS (FS.keepG F3w hG (Nat.le_refl _)) (W.length - 1) (S (lastW W)) (by rw [List.getElem?_map, hwl1.2]; rfl)
          have r0 := R.cell 0 _ rfl
          have r6 := R.cell 6 _ rfl
          have f6 := R.fr 6 (by simp [evL])
          have hlr2 := R.lt (by simp [evL])
          have HR := Lib.hid R
          clear R hwl1 T3 F3 F3w
          have r1 := HR.out.cell 1 _ rfl
          have r2 := HR.out.cell 2 _ rfl
          have r3 := HR.out.cell 3 _ rfl
          have r4 := HR.out.cell 4 _ rfl
          have r5 := HR.out.cell 5 _ rfl
          have hok : Hid ((tevOk s.data.toList = true → (pev W (yI W)).text = s.data.toList ∧ s.data.toList ≠ []) ∧ (tevOk s.data.toList = false → (pev W (yI W)).text ≠ [] → (pev W (yI W)).text ≠ s.data.toList)) := by
            refine ⟨fun h => ?_, fun h hn he => ?_⟩
            · have := of_decide_eq_true h
              rw [← HW.out] at this
              exact this
            · have := of_decide_eq_false h
              rw [← HW.out] at this
              exact this ⟨he, fun h0 => hn (by rw [he, h0])⟩
          by_cases h5 : (kd : Int) = 5
          · have e5 : ((kd : Int) == 5) = true := by rw [h5]; rfl
            have hW1 : (0 : Int) ≤ (W.length : Int) - 1 := by omega
            have hW2 : (W.length : Int) - 1 < (W.length : Int) := by omega
            have hW3 : ((W.length : Int) - 1).toNat = W.length - 1 := by omega
            by_cases hyes : lastW W = yesB
            · have e7 : (lastW W == [121, 101, 115]) = true := by rw [hyes]; rfl
              have hyI : Hid (yI W = true) := by unfold Hid yI; rw [Hw0.out, ← HKD.out, decide_eq_true h5, decide_eq_true hyes]; rfl
              clear hyes h5
              have HR5 := Lib.hid (show Row w1.heap.size (evL (kd : Int) (hasF (kd : Int)) V true) (wr.setCell ⟨w1.heap.size, 6, none⟩ (.bool true)) from HR.out.put 6 [.bool true] (by simp [evL]))
              have hG5 := grown_trans hG (grown_setCell wr w1.heap.size 6 (.bool true))
              have hB5 := Below.setCell hBr (show w.heap.size ≤ (⟨w1.heap.size, 6, none⟩ : Addr).block by show w.heap.size ≤ w1.heap.size; omega) (.bool true)
              have hpe : Hid (evText (kd : Int) (fat (hasF (kd : Int)) V 0) (fat (hasF (kd : Int)) V 1) (fat (hasF (kd : Int)) V 2) (fat (hasF (kd : Int)) V 3) (fat (hasF (kd : Int)) V 4) true = (pev W (yI W)).text) := by unfold Hid; rw [hyI.out, HKD.out, HVe.out, ← Hw0.out]; rfl
              have hpv : Hid ((pev W true).enc = evL (kd : Int) (hasF (kd : Int)) V true) := by unfold Hid; rw [HKD.out, HVe.out, ← Hw0.out]; rfl
              go_wp2_with fail
              refine (evText_impl _ _ _ _ _ _ _ _ (T0.keep hB5).pm).mono ?_
              rintro e w5 ⟨rfl, b5⟩
              rw [hpe.out]
              have R5 := HR5.out.keep (by simp [evL]) b5
              have R05 := (R03.out.keepG (by simp) hG5 (by omega)).keep (by simp) b5
              have hB6 := below_via b5 hB5
              generalize (pev W (yI W)).text = TX at hok
              clear r0 r6 f6 hcl hlr2 hB5 b5 TK hBr
              have c0 := R5.cell 0 _ rfl
              have c1 := R5.cell 1 _ rfl
              have c2 := R5.cell 2 _ rfl
              have c3 := R5.cell 3 _ rfl
              have c4 := R5.cell 4 _ rfl
              have c5 := R5.cell 5 _ rfl
              have c6 := R5.cell 6 _ rfl
              have p0 := R05.cell 0 _ rfl
              have p1 := R05.cell 1 _ rfl
              have p2 := R05.cell 2 _ rfl
              have p3 := R05.cell 3 _ rfl
              have p4 := R05.cell 4 _ rfl
              have p5 := R05.cell 5 _ rfl
              have p6 := R05.cell 6 _ rfl
              have q0 := R05.fr 0 (by simp)
              have q1 := R05.fr 1 (by simp)
              have q2 := R05.fr 2 (by simp)
              have q3 := R05.fr 3 (by simp)
              have q4 := R05.fr 4 (by simp)
              have q5 := R05.fr 5 (by simp)
              have q6 := R05.fr 6 (by simp)
              have hl5 := R05.lt (by simp)
              have hl6 := R5.lt (by simp [evL])
              clear R5 R05 HR5
              cases hto : tevOk s.data.toList with
              | true =>
                have ht := tev_yes hto
                rw [← HW.out, hyI.out] at ht
                have hT := Lib.hid (hok.out.1 hto)
                have e8 : (TX == []) = false := by rw [hT.out.1]; exact beq_eq_false_iff_ne.2 hT.out.2
                have e10 : (TX == s.toList) = true := beqS_yes (by rw [hT.out.1])
                have e9 : (!(TX == s.toList)) = false := by rw [e10]; rfl
                have HT := Lib.hid (show (tev s.data.toList).enc = evL (kd : Int) (hasF (kd : Int)) V true by rw [ht]; exact hpv.out)
                have HTO := Lib.hid hto
                clear ht hto hT
                go_wp2
                refine bodyPost_ret (by simp only [results, Tryz.results51]; go_simp; rfl) rfl ?_
                exact ⟨by rw [HT.out, HTO.out] <;> rfl, by (repeat (first | (with_reducible exact Below.refl _ _) | (with_reducible assumption) | (with_reducible refine Below.setCell ?_ ?side _; case side => first | (with_reducible exact Nat.le_refl _) | (simp; done) | (simp only [World.size_alloc, World.size_setCell, World.size_drew, World.heap_drewN] at *; omega)) | (with_reducible refine below_alloc ?_ _) | (with_reducible refine Below.drew ?_) | (with_reducible refine below_drewN ?_) | (with_reducible refine below_via (by assumption) ?_)))⟩
              | false =>
                have ht := tev_no hto
                have HT := Lib.hid (show (tev s.data.toList).enc = [.int .i64 0, .int .i64 0, .int .i64 0, .int .i64 0, .int .i64 0, .int .i64 0, .bool false] by rw [ht]; rfl)
                have hT := Lib.hid (hok.out.2 hto)
                have HTO := Lib.hid hto
                clear ht hto
                by_cases hnil : TX = []
                · have e8 : (TX == []) = true := by rw [hnil]; rfl
                  clear hnil hT
                  go_wp2
                  refine bodyPost_ret (by simp only [results, Tryz.results51]; go_simp; rfl) rfl ?_
                  exact ⟨by rw [HT.out, HTO.out] <;> rfl, by (repeat (first | (with_reducible exact Below.refl _ _) | (with_reducible assumption) | (with_reducible refine Below.setCell ?_ ?side _; case side => first | (with_reducible exact Nat.le_refl _) | (simp; done) | (simp only [World.size_alloc, World.size_setCell, World.size_drew, World.heap_drewN] at *; omega)) | (with_reducible refine below_alloc ?_ _) | (with_reducible refine Below.drew ?_) | (with_reducible refine below_drewN ?_) | (with_reducible refine below_via (by assumption) ?_)))⟩
                · have e8 : (TX == []) = false := beq_eq_false_iff_ne.2 hnil
                  have e10 : (TX == s.toList) = false := beqS_no (fun h => hT.out hnil (congrArg (fun z : ByteArray => z.data.toList) h))
                  have e9 : (!(TX == s.toList)) = true := by rw [e10]; rfl
                  clear hnil hT
                  go_wp2
                  refine bodyPost_ret (by simp only [results, Tryz.results51]; go_simp; rfl) rfl ?_
                  exact ⟨by rw [HT.out, HTO.out] <;> rfl, by (repeat (first | (with_reducible exact Below.refl _ _) | (with_reducible assumption) | (with_reducible refine Below.setCell ?_ ?side _; case side => first | (with_reducible exact Nat.le_refl _) | (simp; done) | (simp only [World.size_alloc, World.size_setCell, World.size_drew, World.heap_drewN] at *; omega)) | (with_reducible refine below_alloc ?_ _) | (with_reducible refine Below.drew ?_) | (with_reducible refine below_drewN ?_) | (with_reducible refine below_via (by assumption) ?_)))⟩
            · have e7 : (lastW W == [121, 101, 115]) = false := beq_eq_false_iff_ne.2 hyes
              have hyI : Hid (yI W = false) := by unfold Hid yI; rw [decide_eq_false hyes, Bool.and_false]
              clear hyes h5
              have HR5 := Lib.hid (show Row w1.heap.size (evL (kd : Int) (hasF (kd : Int)) V false) (wr.setCell ⟨w1.heap.size, 6, none⟩ (.bool false)) from HR.out.put 6 [.bool false] (by simp [evL]))
              have hG5 := grown_trans hG (grown_setCell wr w1.heap.size 6 (.bool false))
              have hB5 := Below.setCell hBr (show w.heap.size ≤ (⟨w1.heap.size, 6, none⟩ : Addr).block by show w.heap.size ≤ w1.heap.size; omega) (.bool false)
              have hpe : Hid (evText (kd : Int) (fat (hasF (kd : Int)) V 0) (fat (hasF (kd : Int)) V 1) (fat (hasF (kd : Int)) V 2) (fat (hasF (kd : Int)) V 3) (fat (hasF (kd : Int)) V 4) false = (pev W (yI W)).text) := by unfold Hid; rw [hyI.out, HKD.out, HVe.out, ← Hw0.out]; rfl
              have hpv : Hid ((pev W false).enc = evL (kd : Int) (hasF (kd : Int)) V false) := by unfold Hid; rw [HKD.out, HVe.out, ← Hw0.out]; rfl
              go_wp2_with fail
              refine (evText_impl _ _ _ _ _ _ _ _ (T0.keep hB5).pm).mono ?_
              rintro e w5 ⟨rfl, b5⟩
              rw [hpe.out]
              have R5 := HR5.out.keep (by simp [evL]) b5
              have R05 := (R03.out.keepG (by simp) hG5 (by omega)).keep (by simp) b5
              have hB6 := below_via b5 hB5
              generalize (pev W (yI W)).text = TX at hok
              clear r0 r6 f6 hcl hlr2 hB5 b5 TK hBr
              have c0 := R5.cell 0 _ rfl
              have c1 := R5.cell 1 _ rfl
              have c2 := R5.cell 2 _ rfl
              have c3 := R5.cell 3 _ rfl
              have c4 := R5.cell 4 _ rfl
              have c5 := R5.cell 5 _ rfl
              have c6 := R5.cell 6 _ rfl
              have p0 := R05.cell 0 _ rfl
              have p1 := R05.cell 1 _ rfl
              have p2 := R05.cell 2 _ rfl
              have p3 := R05.cell 3 _ rfl
              have p4 := R05.cell 4 _ rfl
              have p5 := R05.cell 5 _ rfl
              have p6 := R05.cell 6 _ rfl
              have q0 := R05.fr 0 (by simp)
              have q1 := R05.fr 1 (by simp)
              have q2 := R05.fr 2 (by simp)
              have q3 := R05.fr 3 (by simp)
              have q4 := R05.fr 4 (by simp)
              have q5 := R05.fr 5 (by simp)
              have q6 := R05.fr 6 (by simp)
              have hl5 := R05.lt (by simp)
              have hl6 := R5.lt (by simp [evL])
              clear R5 R05 HR5
              cases hto : tevOk s.data.toList with
              | true =>
                have ht := tev_yes hto
                rw [← HW.out, hyI.out] at ht
                have hT := Lib.hid (hok.out.1 hto)
                have e8 : (TX == []) = false := by rw [hT.out.1]; exact beq_eq_false_iff_ne.2 hT.out.2
                have e10 : (TX == s.toList) = true := beqS_yes (by rw [hT.out.1])
                have e9 : (!(TX == s.toList)) = false := by rw [e10]; rfl
                have HT := Lib.hid (show (tev s.data.toList).enc = evL (kd : Int) (hasF (kd : Int)) V false by rw [ht]; exact hpv.out)
                have HTO := Lib.hid hto
                clear ht hto hT
                go_wp2
                refine bodyPost_ret (by simp only [results, Tryz.results51]; go_simp; rfl) rfl ?_
                exact ⟨by rw [HT.out, HTO.out] <;> rfl, by (repeat (first | (with_reducible exact Below.refl _ _) | (with_reducible assumption) | (with_reducible refine Below.setCell ?_ ?side _; case side => first | (with_reducible exact Nat.le_refl _) | (simp; done) | (simp only [World.size_alloc, World.size_setCell, World.size_drew, World.heap_drewN] at *; omega)) | (with_reducible refine below_alloc ?_ _) | (with_reducible refine Below.drew ?_) | (with_reducible refine below_drewN ?_) | (with_reducible refine below_via (by assumption) ?_)))⟩
              | false =>
                have ht := tev_no hto
                have HT := Lib.hid (show (tev s.data.toList).enc = [.int .i64 0, .int .i64 0, .int .i64 0, .int .i64 0, .int .i64 0, .int .i64 0, .bool false] by rw [ht]; rfl)
                have hT := Lib.hid (hok.out.2 hto)
                have HTO := Lib.hid hto
                clear ht hto
                by_cases hnil : TX = []
                · have e8 : (TX == []) = true := by rw [hnil]; rfl
                  clear hnil hT
                  go_wp2
                  refine bodyPost_ret (by simp only [results, Tryz.results51]; go_simp; rfl) rfl ?_
                  exact ⟨by rw [HT.out, HTO.out] <;> rfl, by (repeat (first | (with_reducible exact Below.refl _ _) | (with_reducible assumption) | (with_reducible refine Below.setCell ?_ ?side _; case side => first | (with_reducible exact Nat.le_refl _) | (simp; done) | (simp only [World.size_alloc, World.size_setCell, World.size_drew, World.heap_drewN] at *; omega)) | (with_reducible refine below_alloc ?_ _) | (with_reducible refine Below.drew ?_) | (with_reducible refine below_drewN ?_) | (with_reducible refine below_via (by assumption) ?_)))⟩
                · have e8 : (TX == []) = false := beq_eq_false_iff_ne.2 hnil
                  have e10 : (TX == s.toList) = false := beqS_no (fun h => hT.out hnil (congrArg (fun z : ByteArray => z.data.toList) h))
                  have e9 : (!(TX == s.toList)) = true := by rw [e10]; rfl
                  clear hnil hT
                  go_wp2
                  refine bodyPost_ret (by simp only [results, Tryz.results51]; go_simp; rfl) rfl ?_
                  exact ⟨by rw [HT.out, HTO.out] <;> rfl, by (repeat (first | (with_reducible exact Below.refl _ _) | (with_reducible assumption) | (with_reducible refine Below.setCell ?_ ?side _; case side => first | (with_reducible exact Nat.le_refl _) | (simp; done) | (simp only [World.size_alloc, World.size_setCell, World.size_drew, World.heap_drewN] at *; omega)) | (with_reducible refine below_alloc ?_ _) | (with_reducible refine Below.drew ?_) | (with_reducible refine below_drewN ?_) | (with_reducible refine below_via (by assumption) ?_)))⟩
          · have e5 : ((kd : Int) == 5) = false := beq_eq_false_iff_ne.2 h5
            have hyI : Hid (yI W = false) := by unfold Hid yI; rw [Hw0.out, ← HKD.out, decide_eq_false h5]; rfl
            clear h5
            have HR5 := Lib.hid (show Row w1.heap.size (evL (kd : Int) (hasF (kd : Int)) V false) (wr.setCell ⟨w1.heap.size, 6, none⟩ (.bool false)) from HR.out.put 6 [.bool false] (by simp [evL]))
            have hG5 := grown_trans hG (grown_setCell wr w1.heap.size 6 (.bool false))
            have hB5 := Below.setCell hBr (show w.heap.size ≤ (⟨w1.heap.size, 6, none⟩ : Addr).block by show w.heap.size ≤ w1.heap.size; omega) (.bool false)
            have hpe : Hid (evText (kd : Int) (fat (hasF (kd : Int)) V 0) (fat (hasF (kd : Int)) V 1) (fat (hasF (kd : Int)) V 2) (fat (hasF (kd : Int)) V 3) (fat (hasF (kd : Int)) V 4) false = (pev W (yI W)).text) := by unfold Hid; rw [hyI.out, HKD.out, HVe.out, ← Hw0.out]; rfl
            have hpv : Hid ((pev W false).enc = evL (kd : Int) (hasF (kd : Int)) V false) := by unfold Hid; rw [HKD.out, HVe.out, ← Hw0.out]; rfl
            go_wp2_with fail
            refine (evText_impl _ _ _ _ _ _ _ _ (T0.keep hB5).pm).mono ?_
            rintro e w5 ⟨rfl, b5⟩
            rw [hpe.out]
            have R5 := HR5.out.keep (by simp [evL]) b5
            have R05 := (R03.out.keepG (by simp) hG5 (by omega)).keep (by simp) b5
            have hB6 := below_via b5 hB5
            generalize (pev W (yI W)).text = TX at hok
            clear r0 r6 f6 hcl hlr2 hB5 b5 TK hBr
            have c0 := R5.cell 0 _ rfl
            have c1 := R5.cell 1 _ rfl
            have c2 := R5.cell 2 _ rfl
            have c3 := R5.cell 3 _ rfl
            have c4 := R5.cell 4 _ rfl
            have c5 := R5.cell 5 _ rfl
            have c6 := R5.cell 6 _ rfl
            have p0 := R05.cell 0 _ rfl
            have p1 := R05.cell 1 _ rfl
            have p2 := R05.cell 2 _ rfl
            have p3 := R05.cell 3 _ rfl
            have p4 := R05.cell 4 _ rfl
            have p5 := R05.cell 5 _ rfl
            have p6 := R05.cell 6 _ rfl
            have q0 := R05.fr 0 (by simp)
            have q1 := R05.fr 1 (by simp)
            have q2 := R05.fr 2 (by simp)
            have q3 := R05.fr 3 (by simp)
            have q4 := R05.fr 4 (by simp)
            have q5 := R05.fr 5 (by simp)
            have q6 := R05.fr 6 (by simp)
            have hl5 := R05.lt (by simp)
            have hl6 := R5.lt (by simp [evL])
            clear R5 R05 HR5
            cases hto : tevOk s.data.toList with
            | true =>
              have ht := tev_yes hto
              rw [← HW.out, hyI.out] at ht
              have hT := Lib.hid (hok.out.1 hto)
              have e8 : (TX == []) = false := by rw [hT.out.1]; exact beq_eq_false_iff_ne.2 hT.out.2
              have e10 : (TX == s.toList) = true := beqS_yes (by rw [hT.out.1])
              have e9 : (!(TX == s.toList)) = false := by rw [e10]; rfl
              have HT := Lib.hid (show (tev s.data.toList).enc = evL (kd : Int) (hasF (kd : Int)) V false by rw [ht]; exact hpv.out)
              have HTO := Lib.hid hto
              clear ht hto hT
              go_wp2
              refine bodyPost_ret (by simp only [results, Tryz.results51]; go_simp; rfl) rfl ?_
              exact ⟨by rw [HT.out, HTO.out] <;> rfl, by (repeat (first | (with_reducible exact Below.refl _ _) | (with_reducible assumption) | (with_reducible refine Below.setCell ?_ ?side _; case side => first | (with_reducible exact Nat.le_refl _) | (simp; done) | (simp only [World.size_alloc, World.size_setCell, World.size_drew, World.heap_drewN] at *; omega)) | (with_reducible refine below_alloc ?_ _) | (with_reducible refine Below.drew ?_) | (with_reducible refine below_drewN ?_) | (with_reducible refine below_via (by assumption) ?_)))⟩
            | false =>
              have ht := tev_no hto
              have HT := Lib.hid (show (tev s.data.toList).enc = [.int .i64 0, .int .i64 0, .int .i64 0, .int .i64 0, .int .i64 0, .int .i64 0, .bool false] by rw [ht]; rfl)
              have hT := Lib.hid (hok.out.2 hto)
              have HTO := Lib.hid hto
              clear ht hto
              by_cases hnil : TX = []
              · have e8 : (TX == []) = true := by rw [hnil]; rfl
                clear hnil hT
                go_wp2
                refine bodyPost_ret (by simp only [results, Tryz.results51]; go_simp; rfl) rfl ?_
                exact ⟨by rw [HT.out, HTO.out] <;> rfl, by (repeat (first | (with_reducible exact Below.refl _ _) | (with_reducible assumption) | (with_reducible refine Below.setCell ?_ ?side _; case side => first | (with_reducible exact Nat.le_refl _) | (simp; done) | (simp only [World.size_alloc, World.size_setCell, World.size_drew, World.heap_drewN] at *; omega)) | (with_reducible refine below_alloc ?_ _) | (with_reducible refine Below.drew ?_) | (with_reducible refine below_drewN ?_) | (with_reducible refine below_via (by assumption) ?_)))⟩
              · have e8 : (TX == []) = false := beq_eq_false_iff_ne.2 hnil
                have e10 : (TX == s.toList) = false := beqS_no (fun h => hT.out hnil (congrArg (fun z : ByteArray => z.data.toList) h))
                have e9 : (!(TX == s.toList)) = true := by rw [e10]; rfl
                clear hnil hT
                go_wp2
                refine bodyPost_ret (by simp only [results, Tryz.results51]; go_simp; rfl) rfl ?_
                exact ⟨by rw [HT.out, HTO.out] <;> rfl, by (repeat (first | (with_reducible exact Below.refl _ _) | (with_reducible assumption) | (with_reducible refine Below.setCell ?_ ?side _; case side => first | (with_reducible exact Nat.le_refl _) | (simp; done) | (simp only [World.size_alloc, World.size_setCell, World.size_drew, World.heap_drewN] at *; omega)) | (with_reducible refine below_alloc ?_ _) | (with_reducible refine Below.drew ?_) | (with_reducible refine below_drewN ?_) | (with_reducible refine below_via (by assumption) ?_)))⟩

end Go.Proofs.YtafbdbefmlgioaaGreatDoor
