/- Events read: the reference. -/
import Derived.Test.YtafbdbefmlgioaaGreatDoorTevT
import Derived.Deep.CutBlock
namespace Go.Proofs.YtafbdbefmlgioaaGreatDoor
open Go.RowKit
set_option linter.unusedVariables false
set_option linter.unusedSimpArgs false

set_option maxRecDepth 100000 in
set_option maxHeartbeats 6400000 in
theorem textEvent_spec (s : ByteArray) (hs : s.size ≤ 1048576) (w : World) : Calls Tryz.prog 77 #[.string s] w fun e w' => e = .returned (.tuple #[.agg (tev s.data.toList).enc.toArray, .bool (tevOk s.data.toList)]) ∧ Below w.heap.size w w' := by
  have hsl : s.data.toList.length = s.size := Array.length_toList
  have hwl : (words s.data.toList).length ≤ s.size + 1 := by have := wordsGo_len s.data.toList []; rw [hsl] at this; exact this
  have hwp := words_pos s.data.toList
  have hmem : ∀ x ∈ words s.data.toList, x.length ≤ 1048576 := fun x hx => by have := wordsGo_mem s.data.toList [] x hx; simp only [List.length_nil] at this; omega
  obtain ⟨W, hW⟩ : ∃ W, W = words s.data.toList := ⟨_, rfl⟩
  rw [← hW] at hwl hwp hmem
  have HW := Lib.hid hW
  have HM : Hid (∀ y ∈ W.map S, y.size ≤ 1048576) := by
    intro y hy
    obtain ⟨x, hx, rfl⟩ := List.mem_map.1 hy
    have := hmem x hx
    simpa [S, ByteArray.size] using this
  have HSL := Lib.hid hsl
  clear hW hmem hsl
  go_enter Tryz.func77, Tryz.ntmps77
  go_wp2_with fail
  refine (parts_spec s hs _).mono ?_
  rintro e w1 ⟨⟨v, rfl, hown⟩, b1⟩
  have B1 := below_via b1 (by (repeat (first | (with_reducible exact Below.refl _ _) | (with_reducible assumption) | (with_reducible refine Below.setCell ?_ ?side _; case side => first | (with_reducible exact Nat.le_refl _) | (simp; done) | (simp only [World.size_alloc, World.size_setCell, World.size_drew, World.heap_drewN] at *; omega)) | (with_reducible refine below_alloc ?_ _) | (with_reducible refine Below.drew ?_) | (with_reducible refine below_drewN ?_) | (with_reducible refine below_via (by assumption) ?_))) : Below w.heap.size w _)
  have z1 : w.heap.size < w1.heap.size := by have := b1.size; simp at this; omega
  have hR0 : Row w.heap.size [.int .i64 0, .int .i64 0, .int .i64 0, .int .i64 0, .int .i64 0, .int .i64 0, .bool false] w1 := Row.keep (Row.new w #[.int .i64 0, .int .i64 0, .int .i64 0, .int .i64 0, .int .i64 0, .int .i64 0, .bool false] 75) (by simp) b1
  rw [← HW.out] at hown
  obtain ⟨a, c, rfl, ho⟩ := OwnF.of (ok := fun s : ByteArray => s.size ≤ 1048576) hown HM.out
  have F : SS w1 w1.heap.size a (W.map S).length (W.map S) := OF.fs lenS ho
  rw [List.length_map] at F
  have hcap := ho.capB
  rw [List.length_map] at hcap
  clear hown ho
  obtain ⟨b, off, y, rfl, hb, -, -, -, -⟩ := FS.at_ F (k := 0) hwp
  obtain ⟨x0, hx0⟩ : ∃ x, W[0]? = some x := ⟨_, List.getElem?_eq_getElem hwp⟩
  have hw0 : Hid (w0 W = x0) := by unfold Hid w0; rw [hx0]; rfl
  have hc0 := SS.cellS F 0 (S x0) (by rw [List.getElem?_map, hx0]; rfl)
  rw [Nat.add_zero] at hc0
  have Hx0 := Lib.hid hx0
  clear hx0
  have HF := Lib.hid F
  have HR0 := Lib.hid hR0
  clear F hR0 b1
  rw [List.length_map]
  go_wp2_with fail
  refine (l04Words_at _).mono ?_
  rintro e w2 ⟨⟨g2, rfl, hg2, F2w⟩, b2⟩
  have c12 : Below w1.heap.size w1 w2 := below_via b2 (by (repeat (first | (with_reducible exact Below.refl _ _) | (with_reducible assumption) | (with_reducible refine Below.setCell ?_ ?side _; case side => first | (with_reducible exact Nat.le_refl _) | (simp; done) | (simp only [World.size_alloc, World.size_setCell, World.size_drew, World.heap_drewN] at *; omega)) | (with_reducible refine below_alloc ?_ _) | (with_reducible refine Below.drew ?_) | (with_reducible refine below_drewN ?_) | (with_reducible refine below_via (by assumption) ?_))))
  have R2 : Row w1.heap.size [.int .i64 0, .int .i64 0, .int .i64 0, .int .i64 0, .int .i64 0, .int .i64 0, .bool false] w2 := Row.keep (Row.new w1 #[.int .i64 0, .int .i64 0, .int .i64 0, .int .i64 0, .int .i64 0, .int .i64 0, .bool false] 75) (by simp) b2
  have F2 := FS.keepB HF.out c12 (Nat.le_refl _)
  have B2 := below_via c12 B1
  have R02 := Lib.hid (Row.keep HR0.out (by simp) c12)
  have z2 : w1.heap.size < w2.heap.size := R2.lt (by simp)
  have hc02 := cell_keep c12 hc0
  have HF2 := Lib.hid F2
  have cw : ∀ n : Nat, n < 12 → w2.cell? ⟨g2, n, none⟩ = some (.string (S (evWord n))) := fun n hn => StS.cell F2w n _ (evWord_get n hn)
  clear hc0 b2 c12 HF F2 F2w
  have hgne : g2 ≠ w1.heap.size := by simp at hg2; omega
  have hbne : b ≠ w1.heap.size := by omega
  clear hg2 hb
  have Hw0 := Lib.hid hw0.out
  go_wp2_with fail
  go_loopw [6, 7, 17] (fun _ _ i wr => ∃ k : Nat, k ≤ 12 ∧ i = .int .i64 k ∧ Row w1.heap.size [.int .i64 (kw x0 k : Nat), .int .i64 0, .int .i64 0, .int .i64 0, .int .i64 0, .int .i64 0, .bool false] wr ∧ w2.grownBy wr (some w1.heap.size)) (fun _ _ i _ => 12 - (intOf i).toNat)
  case atStart => exact ⟨0, Nat.zero_le _, rfl, R2, World.grownBy.refl _ _⟩
  case round =>
    obtain ⟨k, hk, rfl, R, hG⟩ := hrel
    have zG := hG.size
    by_cases hlt : k < 12
    · have ck : wr.cell? ⟨g2, k, none⟩ = some (.string (S (evWord k))) := hG.cell (cw k hlt) (by intro h; injection h with h; exact hgne h)
      have cb : wr.cell? ⟨b, off, none⟩ = some (.string (S x0)) := hG.cell hc02 (by intro h; injection h with h; exact hbne h)
      have r0 := R.cell 0 _ rfl
      have f0 := R.fr 0 (by simp)
      have HC := Lib.hid cw
      clear cw
      by_cases hk0 : k = 0
      · subst hk0
        have hk1 : Hid (kw x0 (0 + 1) = 0) := kw_0 x0
        have hk2 : Hid (kw x0 0 = 0) := rfl
        go_wp2
        go_roundw
        case rel => exact ⟨0 + 1, by omega, by go_num, by rw [hk1.out]; exact R, hG⟩
        case measure => simp [intOf]
      · have hkp : (0 : Int) < (k : Int) := by omega
        by_cases he : evWord (k : Int) = x0
        · have e1 : (evWord (k : Int) == x0) = true := by rw [he]; exact beq_self_eq_true _
          have hk1 := Lib.hid (kw_yes hlt he)
          clear he
          go_wp2
          go_roundw
          case rel => exact ⟨k + 1, by omega, by go_num, by rw [hk1.out]; exact R.put 0 [.int .i64 k] (by simp), grown_trans hG (grown_setCell _ _ _ _)⟩
          case measure => simp [intOf]; omega
        · have e1 : (evWord (k : Int) == x0) = false := beq_eq_false_iff_ne.2 he
          have hk1 := Lib.hid (kw_no hlt he)
          clear he
          go_wp2
          go_roundw
          case rel => exact ⟨k + 1, by omega, by go_num, by rw [hk1.out]; exact R, hG⟩
          case measure => simp [intOf]; omega
    · obtain rfl : k = 12 := by omega
      clear cw
      obtain ⟨kd, hkd⟩ : ∃ kd, kd = kw x0 12 := ⟨_, rfl⟩
      rw [← hkd] at R
      have HKD := Lib.hid hkd
      clear hkd hk hlt
      have BG := B2.trans (grown_below_of hG (by omega : w.heap.size ≤ w1.heap.size) B2.size)
      have r0 := R.cell 0 _ rfl
      have hlr := R.lt (by simp)
      have HRr := Lib.hid R
      clear R hc02
      go_wp2_with fail
      refine (l04Has_at _ _).mono ?_
      rintro e w3 ⟨⟨g3, rfl, hg3, F3⟩, b3⟩
      have b3' : Below wr.heap.size wr w3 := below_via b3 (by (repeat (first | (with_reducible exact Below.refl _ _) | (with_reducible assumption) | (with_reducible refine Below.setCell ?_ ?side _; case side => first | (with_reducible exact Nat.le_refl _) | (simp; done) | (simp only [World.size_alloc, World.size_setCell, World.size_drew, World.heap_drewN] at *; omega)) | (with_reducible refine below_alloc ?_ _) | (with_reducible refine Below.drew ?_) | (with_reducible refine below_drewN ?_) | (with_reducible refine below_via (by assumption) ?_))))
      have hR3 := HRr.out.keep (by simp) b3'
      have R03 := Lib.hid ((R02.out.keepG (by simp) hG (by omega)).keep (by simp) b3')
      have B3 := below_via b3' BG
      have z3 := b3'.size
      have RV0 : Row wr.heap.size [.int .i64 0, .int .i64 0, .int .i64 0, .int .i64 0, .int .i64 0] w3 := Row.keep (Row.new wr #[.int .i64 0, .int .i64 0, .int .i64 0, .int .i64 0, .int .i64 0] 3) (by simp) b3
      have F3w := FS.keepB (FS.keepG HF2.out hG (Nat.le_refl _)) b3' (by omega)
      have hb1 : b < w1.heap.size := by obtain ⟨b', o', x, e, h, -⟩ := FS.at_ F3w (k := 0) hwp; injection e with e; injection e with e1; subst e1; exact h
      have hg3' : wr.heap.size < g3 := by simp at hg3; omega
      have zv : wr.heap.size < w3.heap.size := RV0.lt (by simp)
      obtain ⟨V, hV⟩ : ∃ V, V = tvals W := ⟨_, rfl⟩
      have HV : Hid (∀ (k : Nat) (x : List UInt8), W[k + 1]? = some x → V[k]? = some (tg x)) := fun k x hx => by
        rw [hV]
        unfold tvals
        rw [List.getElem?_map, List.getElem?_drop, Nat.add_comm 1 k, hx]
        rfl
      have hVl : V.length = W.length - 1 := by rw [hV]; unfold tvals; rw [List.length_map, List.length_drop]
      have HVe := Lib.hid hV
      obtain ⟨H, hH⟩ : ∃ H, H = hasF (kd : Int) := ⟨_, rfl⟩
      have hHl : H.length = 6 := by rw [hH]; exact hasF_len _
      rw [← hH] at F3
      have HH := Lib.hid hH
      have HVl := Lib.hid hVl
      have HHl := Lib.hid hHl
      have RV : Row wr.heap.size (nmL H V 0) w3 := RV0
      have hat0 : Hid (atW H V 0 = 1) := by unfold Hid atW; simp [cnt]
      clear RV0 hV hVl hH hHl R2 r0 B1 b3 hg3
      obtain ⟨wo, rfl⟩ : ∃ wo : World, wo = wr := ⟨_, rfl⟩
      go_wp2_with fail
      go_loopw [9, 10, 11, 39] (fun at_ _ _ i wq => ∃ k : Nat, k ≤ 6 ∧ i = .int .i64 k ∧ at_ = .int .i64 (atW H V k : Nat) ∧ Row wo.heap.size (nmL H V k) wq ∧ w3.grownBy wq (some wo.heap.size)) (fun _ _ _ i _ => 6 - (intOf i).toNat)
      case atStart => exact ⟨0, Nat.zero_le _, rfl, by rw [hat0.out]; rfl, RV, World.grownBy.refl _ _⟩
      case round =>
        obtain ⟨k, hk, rfl, rfl, R, hG2⟩ := hrel
        have hat := atW_le H V k
        have zG2 := hG2.size
        by_cases hlt : k < 6
        · obtain ⟨hb, hhb⟩ : ∃ c, H[k]? = some c := ⟨_, List.getElem?_eq_getElem (by have := HHl.out; omega)⟩
          have cb := hG2.cell (BoS.cell F3 k hb hhb) (by intro h; injection h with h; simp only at h; omega)
          have HAT := Lib.hid HVl.out
          cases hb with
          | false =>
            obtain ⟨a1, a2⟩ := atW_no (v := V) hhb
            have A1 := Lib.hid a1
            have n1 := Lib.hid (nmL_skip (h := H) (v := V) (k := k) (fun _ => a2))
            clear a1 a2 hhb
            generalize hm : atW H V k = m at A1 hat ⊢
            clear hm
            go_wp2
            go_roundw
            case rel => exact ⟨k + 1, by omega, by go_num, by rw [A1.out], by rw [n1.out]; exact R, hG2⟩
            case measure => simp [intOf]; omega
          | true =>
            by_cases h5 : k < 5
            · have h5i : (k : Int) < 5 := by omega
              by_cases hin : atW H V k ≤ V.length
              · obtain ⟨a1, a2⟩ := atW_yes h5 hhb hin
                have hwm : atW H V k < W.length := by have := HVl.out; omega
                obtain ⟨x, hx⟩ : ∃ x, W[atW H V k]? = some x := ⟨_, List.getElem?_eq_getElem hwm⟩
                have hcx := SS.cellS (FS.keepG F3w hG2 (by omega)) (atW H V k) (S x) (by rw [List.getElem?_map, hx]; rfl)
                have hxs : (S x).size ≤ 1048576 := HM.out (S x) (List.mem_map.2 ⟨x, List.mem_of_getElem? hx, rfl⟩)
                have hvk : fat H V k = tg x := by
                  have := HV.out (atW H V k - 1) x (by rw [show atW H V k - 1 + 1 = atW H V k by omega]; exact hx)
                  rw [a2, this]
                  rfl
                have A1 := Lib.hid a1
                have n1 := Lib.hid (nmL_put h5 hvk)
                clear a1 a2 hhb hx hin
                generalize hm : atW H V k = m at A1 hat hcx hwm ⊢
                clear hm
                have hwmi : (m : Int) < (W.length : Int) := by omega
                have hk5 : k < (nmL H V k).length := by rw [nmL_len]; omega
                obtain ⟨u, hu⟩ : ∃ u, (nmL H V k)[k]? = some u := ⟨_, List.getElem?_eq_getElem hk5⟩
                go_wp2_with fail
                refine (textNum_spec (S x) (by omega) _).mono ?_
                rintro e w4 ⟨he, b4⟩
                rw [tnV_eq, show (S x).data.toList = x from rfl, show (tnum x).getD 0 = tg x from rfl] at he
                subst he
                have R4 := R.keep (by simp [nmL]) b4
                have c4 := R4.cell k u hu
                have f4 := R4.fr k hk5
                have hG4 := grown_trans hG2 (grown_of_below wo.heap.size b4)
                have hl4 := R4.lt (by simp [nmL])
                have HR4 := Lib.hid R4
                generalize tg x = y at n1 ⊢
                generalize (tnum x).isSome = z
                clear R R4 hcx
                go_wp2_with fail
                go_roundw
                case rel => exact ⟨k + 1, by omega, by go_num, by rw [A1.out]; go_num, by have := HR4.out.put k [.int .i64 y] (by simp [nmL]; omega); rw [n1.out] at this; exact this, grown_trans hG4 (grown_setCell _ _ _ _)⟩
                case measure => simp [intOf]; omega
              · obtain ⟨a1, a2⟩ := atW_end h5 hhb hin
                have hwm : ¬ atW H V k < W.length := by have := HVl.out; omega
                have A1 := Lib.hid a1
                have n1 := Lib.hid (nmL_skip (h := H) (v := V) (k := k) (fun _ => a2))
                clear a1 a2 hhb hin
                generalize hm : atW H V k = m at A1 hat hwm ⊢
                clear hm
                have hwmi : ¬ (m : Int) < (W.length : Int) := by omega
                go_wp2
                go_roundw
                case rel => exact ⟨k + 1, by omega, by go_num, by rw [A1.out], by rw [n1.out]; exact R, hG2⟩
                case measure => simp [intOf]; omega
            · have h5i : ¬ (k : Int) < 5 := by omega
              have A1 := Lib.hid (atW_past (h := H) (v := V) h5)
              have n1 := Lib.hid (nmL_skip (h := H) (v := V) (k := k) (fun h => absurd h h5))
              clear hhb
              generalize hm : atW H V k = m at A1 hat ⊢
              clear hm
              go_wp2
              go_roundw
              case rel => exact ⟨k + 1, by omega, by go_num, by rw [A1.out], by rw [n1.out]; exact R, hG2⟩
              case measure => simp [intOf]; omega
        · have hall := nmL_all H V (k := k) (by omega)
          rw [hall] at R
          clear hall
          have v0 := R.cell 0 _ rfl
          have v1 := R.cell 1 _ rfl
          have v2 := R.cell 2 _ rfl
          have v3 := R.cell 3 _ rfl
          have v4 := R.cell 4 _ rfl
          have hwl1 : (lastW W).length ≤ 1048576 ∧ W[W.length - 1]? = some (lastW W) := by
            have hq : W[W.length - 1]? = some (W[W.length - 1]'(by omega)) := List.getElem?_eq_getElem (by omega)
            unfold lastW
            rw [hq]
            refine ⟨?_, rfl⟩
            have := HM.out (S _) (List.mem_map.2 ⟨_, List.mem_of_getElem? hq, rfl⟩)
            simpa [S, ByteArray.size] using this
          have hcl := SS.cellS (FS.keepG F3w hG2 (by omega)) (W.length - 1) (S (lastW W)) (by rw [List.getElem?_map, hwl1.2]; rfl)
          have RE := hR3.keepG (by simp) hG2 (by omega)
          have R0e := Lib.hid (R03.out.keepG (by simp) hG2 (by omega))
          have hlr2 := RE.lt (by simp)
          have r0 := RE.cell 0 _ rfl
          have r1 := RE.cell 1 _ rfl
          have r2 := RE.cell 2 _ rfl
          have r3 := RE.cell 3 _ rfl
          have r4 := RE.cell 4 _ rfl
          have r5 := RE.cell 5 _ rfl
          have r6 := RE.cell 6 _ rfl
          have f0 := RE.fr 0 (by simp)
          have f1 := RE.fr 1 (by simp)
          have f2 := RE.fr 2 (by simp)
          have f3 := RE.fr 3 (by simp)
          have f4 := RE.fr 4 (by simp)
          have f5 := RE.fr 5 (by simp)
          have f6 := RE.fr 6 (by simp)
          have hBr := B3.trans (grown_below_of hG2 (by omega : w.heap.size ≤ wo.heap.size) B3.size)
          have HRE := Lib.hid RE
          have hW1 : (0 : Int) ≤ (W.length : Int) - 1 := by omega
          have hW2 : (W.length : Int) - 1 < (W.length : Int) := by omega
          have hW3 : ((W.length : Int) - 1).toNat = W.length - 1 := by omega
          have hne1 : wo.heap.size ≠ w1.heap.size := by omega
          have hne2 : b ≠ w1.heap.size := by omega
          have hne3 : b ≠ wo.heap.size := by omega
          have hOS := tev_same s.data.toList
          rw [← HW.out] at hOS
          have HOS := Lib.hid hOS
          clear hOS
          clear RE hwl1 F3 F3w
          generalize hm : atW H V k = m at hat ⊢
          clear hm
          obtain ⟨y7, hy7⟩ : ∃ y, yS W = y := ⟨_, rfl⟩
          have HY7 := Lib.hid hy7
          have e7 : (lastW W == [121, 101, 115]) = y7 := by
            rw [← hy7]
            unfold yS yesB
            rw [Bool.eq_iff_iff]
            simp
          clear hy7
          clear v0 v1 v2 v3 v4 r0 r1 r2 r3 r4 r5 r6 f0 f1 f2 f3 f4 f5 f6
          have hne4 : w.heap.size ≠ w1.heap.size := by omega
          have RB := R
          have RA := HRE.out
          clear R HRE hG2 zG2
          go_upto_region 18 with fail
          have vv := RB.cell 0 _ rfl
          have rr := RA.cell 1 _ rfl
          have ff := RA.fr 1 (by simp)
          have ll := RA.lt (by simp)
          have RA2 : Row w1.heap.size [.int .i64 (kd : Int), .int .i64 (fat H V 0), .int .i64 0, .int .i64 0, .int .i64 0, .int .i64 0, .bool false] (wr.setCell ⟨w1.heap.size, 1, none⟩ (.int .i64 (fat H V 0))) := RA.put 1 [.int .i64 (fat H V 0)] (by simp)
          have RB2 : Row wo.heap.size [.int .i64 (fat H V 0), .int .i64 (fat H V 1), .int .i64 (fat H V 2), .int .i64 (fat H V 3), .int .i64 (fat H V 4)] (wr.setCell ⟨w1.heap.size, 1, none⟩ (.int .i64 (fat H V 0))) := RB.other hne1 1 [.int .i64 (fat H V 0)]
          have R02e : Row w.heap.size [.int .i64 0, .int .i64 0, .int .i64 0, .int .i64 0, .int .i64 0, .int .i64 0, .bool false] (wr.setCell ⟨w1.heap.size, 1, none⟩ (.int .i64 (fat H V 0))) := R0e.out.other hne4 1 [.int .i64 (fat H V 0)]
          have hcl2 := (grown_setCell wr w1.heap.size 1 (.int .i64 (fat H V 0))).cell hcl (by intro h; injection h with h; exact hne2 h)
          have hBr2 := Below.setCell hBr (show w.heap.size ≤ (⟨w1.heap.size, 1, none⟩ : Addr).block by show w.heap.size ≤ w1.heap.size; omega) (.int .i64 (fat H V 0))
          replace R0e := Lib.hid R02e
          clear RB R02e
          have HRA := Lib.hid RA2
          have HRB := Lib.hid RB2
          have HBr := Lib.hid hBr2
          have Hcl := Lib.hid hcl2
          clear RA RA2 RB2 hBr hBr2 hcl hcl2
          go_upto_region 19 with fail
          generalize hXX : wr.setCell ⟨w1.heap.size, 1, none⟩ (.int .i64 (fat H V 0)) = X1 at *
          have RA := HRA.out
          have RB := HRB.out
          have hBr := HBr.out
          have hcl := Hcl.out
          clear hXX vv rr ff ll HRA HRB HBr Hcl
          have vv := RB.cell 1 _ rfl
          have rr := RA.cell 2 _ rfl
          have ff := RA.fr 2 (by simp)
          have ll := RA.lt (by simp)
          have RA2 : Row w1.heap.size [.int .i64 (kd : Int), .int .i64 (fat H V 0), .int .i64 (fat H V 1), .int .i64 0, .int .i64 0, .int .i64 0, .bool false] (X1.setCell ⟨w1.heap.size, 2, none⟩ (.int .i64 (fat H V 1))) := RA.put 2 [.int .i64 (fat H V 1)] (by simp)
          have RB2 : Row wo.heap.size [.int .i64 (fat H V 0), .int .i64 (fat H V 1), .int .i64 (fat H V 2), .int .i64 (fat H V 3), .int .i64 (fat H V 4)] (X1.setCell ⟨w1.heap.size, 2, none⟩ (.int .i64 (fat H V 1))) := RB.other hne1 2 [.int .i64 (fat H V 1)]
          have R02e : Row w.heap.size [.int .i64 0, .int .i64 0, .int .i64 0, .int .i64 0, .int .i64 0, .int .i64 0, .bool false] (X1.setCell ⟨w1.heap.size, 2, none⟩ (.int .i64 (fat H V 1))) := R0e.out.other hne4 2 [.int .i64 (fat H V 1)]
          have hcl2 := (grown_setCell X1 w1.heap.size 2 (.int .i64 (fat H V 1))).cell hcl (by intro h; injection h with h; exact hne2 h)
          have hBr2 := Below.setCell hBr (show w.heap.size ≤ (⟨w1.heap.size, 2, none⟩ : Addr).block by show w.heap.size ≤ w1.heap.size; omega) (.int .i64 (fat H V 1))
          replace R0e := Lib.hid R02e
          clear RB R02e
          have HRA := Lib.hid RA2
          have HRB := Lib.hid RB2
          have HBr := Lib.hid hBr2
          have Hcl := Lib.hid hcl2
          clear RA RA2 RB2 hBr hBr2 hcl hcl2
          go_upto_region 20 with fail
          generalize hXX : X1.setCell ⟨w1.heap.size, 2, none⟩ (.int .i64 (fat H V 1)) = X2 at *
          have RA := HRA.out
          have RB := HRB.out
          have hBr := HBr.out
          have hcl := Hcl.out
          clear hXX vv rr ff ll HRA HRB HBr Hcl
          have vv := RB.cell 2 _ rfl
          have rr := RA.cell 3 _ rfl
          have ff := RA.fr 3 (by simp)
          have ll := RA.lt (by simp)
          have RA2 : Row w1.heap.size [.int .i64 (kd : Int), .int .i64 (fat H V 0), .int .i64 (fat H V 1), .int .i64 (fat H V 2), .int .i64 0, .int .i64 0, .bool false] (X2.setCell ⟨w1.heap.size, 3, none⟩ (.int .i64 (fat H V 2))) := RA.put 3 [.int .i64 (fat H V 2)] (by simp)
          have RB2 : Row wo.heap.size [.int .i64 (fat H V 0), .int .i64 (fat H V 1), .int .i64 (fat H V 2), .int .i64 (fat H V 3), .int .i64 (fat H V 4)] (X2.setCell ⟨w1.heap.size, 3, none⟩ (.int .i64 (fat H V 2))) := RB.other hne1 3 [.int .i64 (fat H V 2)]
          have R02e : Row w.heap.size [.int .i64 0, .int .i64 0, .int .i64 0, .int .i64 0, .int .i64 0, .int .i64 0, .bool false] (X2.setCell ⟨w1.heap.size, 3, none⟩ (.int .i64 (fat H V 2))) := R0e.out.other hne4 3 [.int .i64 (fat H V 2)]
          have hcl2 := (grown_setCell X2 w1.heap.size 3 (.int .i64 (fat H V 2))).cell hcl (by intro h; injection h with h; exact hne2 h)
          have hBr2 := Below.setCell hBr (show w.heap.size ≤ (⟨w1.heap.size, 3, none⟩ : Addr).block by show w.heap.size ≤ w1.heap.size; omega) (.int .i64 (fat H V 2))
          replace R0e := Lib.hid R02e
          clear RB R02e
          have HRA := Lib.hid RA2
          have HRB := Lib.hid RB2
          have HBr := Lib.hid hBr2
          have Hcl := Lib.hid hcl2
          clear RA RA2 RB2 hBr hBr2 hcl hcl2
          go_upto_region 21 with fail
          generalize hXX : X2.setCell ⟨w1.heap.size, 3, none⟩ (.int .i64 (fat H V 2)) = X3 at *
          have RA := HRA.out
          have RB := HRB.out
          have hBr := HBr.out
          have hcl := Hcl.out
          clear hXX vv rr ff ll HRA HRB HBr Hcl
          have vv := RB.cell 3 _ rfl
          have rr := RA.cell 4 _ rfl
          have ff := RA.fr 4 (by simp)
          have ll := RA.lt (by simp)
          have RA2 : Row w1.heap.size [.int .i64 (kd : Int), .int .i64 (fat H V 0), .int .i64 (fat H V 1), .int .i64 (fat H V 2), .int .i64 (fat H V 3), .int .i64 0, .bool false] (X3.setCell ⟨w1.heap.size, 4, none⟩ (.int .i64 (fat H V 3))) := RA.put 4 [.int .i64 (fat H V 3)] (by simp)
          have RB2 : Row wo.heap.size [.int .i64 (fat H V 0), .int .i64 (fat H V 1), .int .i64 (fat H V 2), .int .i64 (fat H V 3), .int .i64 (fat H V 4)] (X3.setCell ⟨w1.heap.size, 4, none⟩ (.int .i64 (fat H V 3))) := RB.other hne1 4 [.int .i64 (fat H V 3)]
          have R02e : Row w.heap.size [.int .i64 0, .int .i64 0, .int .i64 0, .int .i64 0, .int .i64 0, .int .i64 0, .bool false] (X3.setCell ⟨w1.heap.size, 4, none⟩ (.int .i64 (fat H V 3))) := R0e.out.other hne4 4 [.int .i64 (fat H V 3)]
          have hcl2 := (grown_setCell X3 w1.heap.size 4 (.int .i64 (fat H V 3))).cell hcl (by intro h; injection h with h; exact hne2 h)
          have hBr2 := Below.setCell hBr (show w.heap.size ≤ (⟨w1.heap.size, 4, none⟩ : Addr).block by show w.heap.size ≤ w1.heap.size; omega) (.int .i64 (fat H V 3))
          replace R0e := Lib.hid R02e
          clear RB R02e
          have HRA := Lib.hid RA2
          have HRB := Lib.hid RB2
          have HBr := Lib.hid hBr2
          have Hcl := Lib.hid hcl2
          clear RA RA2 RB2 hBr hBr2 hcl hcl2
          go_upto_region 22 with fail
          generalize hXX : X3.setCell ⟨w1.heap.size, 4, none⟩ (.int .i64 (fat H V 3)) = X4 at *
          have RA := HRA.out
          have RB := HRB.out
          have hBr := HBr.out
          have hcl := Hcl.out
          clear hXX vv rr ff ll HRA HRB HBr Hcl
          have vv := RB.cell 4 _ rfl
          have rr := RA.cell 5 _ rfl
          have ff := RA.fr 5 (by simp)
          have ll := RA.lt (by simp)
          have RA2 : Row w1.heap.size [.int .i64 (kd : Int), .int .i64 (fat H V 0), .int .i64 (fat H V 1), .int .i64 (fat H V 2), .int .i64 (fat H V 3), .int .i64 (fat H V 4), .bool false] (X4.setCell ⟨w1.heap.size, 5, none⟩ (.int .i64 (fat H V 4))) := RA.put 5 [.int .i64 (fat H V 4)] (by simp)
          have RB2 : Row wo.heap.size [.int .i64 (fat H V 0), .int .i64 (fat H V 1), .int .i64 (fat H V 2), .int .i64 (fat H V 3), .int .i64 (fat H V 4)] (X4.setCell ⟨w1.heap.size, 5, none⟩ (.int .i64 (fat H V 4))) := RB.other hne1 5 [.int .i64 (fat H V 4)]
          have R02e : Row w.heap.size [.int .i64 0, .int .i64 0, .int .i64 0, .int .i64 0, .int .i64 0, .int .i64 0, .bool false] (X4.setCell ⟨w1.heap.size, 5, none⟩ (.int .i64 (fat H V 4))) := R0e.out.other hne4 5 [.int .i64 (fat H V 4)]
          have hcl2 := (grown_setCell X4 w1.heap.size 5 (.int .i64 (fat H V 4))).cell hcl (by intro h; injection h with h; exact hne2 h)
          have hBr2 := Below.setCell hBr (show w.heap.size ≤ (⟨w1.heap.size, 5, none⟩ : Addr).block by show w.heap.size ≤ w1.heap.size; omega) (.int .i64 (fat H V 4))
          replace R0e := Lib.hid R02e
          clear RB R02e
          have HRA := Lib.hid RA2
          have HRB := Lib.hid RB2
          have HBr := Lib.hid hBr2
          have Hcl := Lib.hid hcl2
          clear RA RA2 RB2 hBr hBr2 hcl hcl2
          go_upto_region 23 with fail
          generalize hXX : X4.setCell ⟨w1.heap.size, 5, none⟩ (.int .i64 (fat H V 4)) = X5 at *
          have RA := HRA.out
          have RB := HRB.out
          have hBr := HBr.out
          have hcl := Hcl.out
          clear hXX vv rr ff ll HRA HRB HBr Hcl
          have rr := RA.cell 6 _ rfl
          have ff := RA.fr 6 (by simp)
          have ll := RA.lt (by simp)
          have RA2 : Row w1.heap.size [.int .i64 (kd : Int), .int .i64 (fat H V 0), .int .i64 (fat H V 1), .int .i64 (fat H V 2), .int .i64 (fat H V 3), .int .i64 (fat H V 4), .bool y7] (X5.setCell ⟨w1.heap.size, 6, none⟩ (.bool y7)) := RA.put 6 [.bool y7] (by simp)
          have R02e : Row w.heap.size [.int .i64 0, .int .i64 0, .int .i64 0, .int .i64 0, .int .i64 0, .int .i64 0, .bool false] (X5.setCell ⟨w1.heap.size, 6, none⟩ (.bool y7)) := R0e.out.other hne4 6 [.bool y7]
          have hBr2 := Below.setCell hBr (show w.heap.size ≤ (⟨w1.heap.size, 6, none⟩ : Addr).block by show w.heap.size ≤ w1.heap.size; omega) (.bool y7)
          clear R0e
          have HRA := Lib.hid RA2
          have HR0e := Lib.hid R02e
          have HBr := Lib.hid hBr2
          clear RA RA2 RB hBr hBr2 R02e
          go_upto_region 24 with fail
          generalize hXX : (X5.setCell ⟨w1.heap.size, 6, none⟩ (.bool y7)) = X6 at *
          have R5 := HRA.out
          have R05 := HR0e.out
          have hBr := HBr.out
          clear hXX rr ff ll HRA HR0e HBr hcl e7
          have c0 := R5.cell 0 _ rfl
          have c1 := R5.cell 1 _ rfl
          have c2 := R5.cell 2 _ rfl
          have c3 := R5.cell 3 _ rfl
          have c4 := R5.cell 4 _ rfl
          have c5 := R5.cell 5 _ rfl
          have c6 := R5.cell 6 _ rfl
          have p0 := R05.cell 0 _ rfl
          have p1 := R05.cell 1 _ rfl
          have p2 := R05.cell 2 _ rfl
          have p3 := R05.cell 3 _ rfl
          have p4 := R05.cell 4 _ rfl
          have p5 := R05.cell 5 _ rfl
          have p6 := R05.cell 6 _ rfl
          have q0 := R05.fr 0 (by simp)
          have q1 := R05.fr 1 (by simp)
          have q2 := R05.fr 2 (by simp)
          have q3 := R05.fr 3 (by simp)
          have q4 := R05.fr 4 (by simp)
          have q5 := R05.fr 5 (by simp)
          have q6 := R05.fr 6 (by simp)
          have hl5 := R05.lt (by simp)
          have hl6 := R5.lt (by simp)
          have hpe : Hid (evText (kd : Int) (fat H V 0) (fat H V 1) (fat H V 2) (fat H V 3) (fat H V 4) y7 = (pev W (yS W)).text) := by unfold Hid; rw [HY7.out, HH.out, HKD.out, HVe.out, ← Hw0.out]; rfl
          have hpv : Hid ((pev W (yS W)).enc = [.int .i64 (kd : Int), .int .i64 (fat H V 0), .int .i64 (fat H V 1), .int .i64 (fat H V 2), .int .i64 (fat H V 3), .int .i64 (fat H V 4), .bool y7]) := by unfold Hid; rw [HY7.out, HH.out, HKD.out, HVe.out, ← Hw0.out]; rfl
          by_cases hnil : s.data.toList = []
          · have hto : tevOk s.data.toList = false := decide_eq_false fun h => h.2 hnil
            have HT := Lib.hid (show (tev s.data.toList).enc = [.int .i64 0, .int .i64 0, .int .i64 0, .int .i64 0, .int .i64 0, .int .i64 0, .bool false] by rw [tev_no hto]; rfl)
            have HTO := Lib.hid hto
            have hs0 : s = ⟨#[]⟩ := ByteArray.ext (Array.toList_inj.1 hnil)
            clear hto hnil
            have e8c : s.toList = [] := by rw [hs0, ByteArray.toList_eq]
            have e8 : (s.toList == []) = true := by rw [e8c]; rfl
            have e8b : s.toList.isEmpty = true := by rw [e8c]; rfl
            clear hs0
            go_wp2
            refine bodyPost_ret (by simp only [results, Tryz.results77]; go_simp; rfl) rfl ?_
            exact ⟨by rw [HT.out, HTO.out] <;> rfl, by (repeat (first | (with_reducible exact Below.refl _ _) | (with_reducible assumption) | (with_reducible refine Below.setCell ?_ ?side _; case side => first | (with_reducible exact Nat.le_refl _) | (simp; done) | (simp only [World.size_alloc, World.size_setCell, World.size_drew, World.heap_drewN] at *; omega)) | (with_reducible refine below_alloc ?_ _) | (with_reducible refine Below.drew ?_) | (with_reducible refine below_drewN ?_) | (with_reducible refine below_via (by assumption) ?_)))⟩
          · have e8c : ¬ s.toList = [] := fun h => hnil (by rw [ByteArray.toList_eq] at h; exact h)
            have e8 : (s.toList == []) = false := beq_eq_false_iff_ne.2 e8c
            have e8b : s.toList.isEmpty = false := by cases h : s.toList with | nil => exact absurd h e8c | cons => rfl
            have Hnil := Lib.hid hnil
            clear hnil
            go_wp2_with fail
            refine (evText_spec _ _ _ _ _ _ _ _).mono ?_
            rintro e w5 ⟨rfl, b5⟩
            rw [hpe.out]
            have hB6 := below_via b5 (by (repeat (first | (with_reducible exact Below.refl _ _) | (with_reducible assumption) | (with_reducible refine Below.setCell ?_ ?side _; case side => first | (with_reducible exact Nat.le_refl _) | (simp; done) | (simp only [World.size_alloc, World.size_setCell, World.size_drew, World.heap_drewN] at *; omega)) | (with_reducible refine below_alloc ?_ _) | (with_reducible refine Below.drew ?_) | (with_reducible refine below_drewN ?_) | (with_reducible refine below_via (by assumption) ?_))) : Below w.heap.size w _)
            have R5' := R5.keep (by simp) (below_via b5 (by (repeat (first | (with_reducible exact Below.refl _ _) | (with_reducible assumption) | (with_reducible refine Below.setCell ?_ ?side _; case side => first | (with_reducible exact Nat.le_refl _) | (simp; done) | (simp only [World.size_alloc, World.size_setCell, World.size_drew, World.heap_drewN] at *; omega)) | (with_reducible refine below_alloc ?_ _) | (with_reducible refine Below.drew ?_) | (with_reducible refine below_drewN ?_) | (with_reducible refine below_via (by assumption) ?_))) : Below X6.heap.size X6 _))
            have R05' := R05.keep (by simp) (below_via b5 (by (repeat (first | (with_reducible exact Below.refl _ _) | (with_reducible assumption) | (with_reducible refine Below.setCell ?_ ?side _; case side => first | (with_reducible exact Nat.le_refl _) | (simp; done) | (simp only [World.size_alloc, World.size_setCell, World.size_drew, World.heap_drewN] at *; omega)) | (with_reducible refine below_alloc ?_ _) | (with_reducible refine Below.drew ?_) | (with_reducible refine below_drewN ?_) | (with_reducible refine below_via (by assumption) ?_))) : Below X6.heap.size X6 _))
            have hok : Hid (decide ((pev W (yS W)).text = s.data.toList ∧ s.data.toList ≠ []) = tevOk s.data.toList ∧ (tevOk s.data.toList = true → pev W (yS W) = tev s.data.toList)) := by
              refine ⟨HOS.out.1, fun h => ?_⟩
              rw [tev_yes h, ← HW.out]
              exact HOS.out.2 h
            clear R5 R05 c0 p0 q0 c1 p1 q1 c2 p2 q2 c3 p3 q3 c4 p4 q4 c5 p5 q5 c6 p6 q6 hl5 hl6 b5 hBr
            have R5 := R5'
            have R05 := R05'
            clear R5' R05'
            have c0 := R5.cell 0 _ rfl
            have c1 := R5.cell 1 _ rfl
            have c2 := R5.cell 2 _ rfl
            have c3 := R5.cell 3 _ rfl
            have c4 := R5.cell 4 _ rfl
            have c5 := R5.cell 5 _ rfl
            have c6 := R5.cell 6 _ rfl
            have p0 := R05.cell 0 _ rfl
            have p1 := R05.cell 1 _ rfl
            have p2 := R05.cell 2 _ rfl
            have p3 := R05.cell 3 _ rfl
            have p4 := R05.cell 4 _ rfl
            have p5 := R05.cell 5 _ rfl
            have p6 := R05.cell 6 _ rfl
            have q0 := R05.fr 0 (by simp)
            have q1 := R05.fr 1 (by simp)
            have q2 := R05.fr 2 (by simp)
            have q3 := R05.fr 3 (by simp)
            have q4 := R05.fr 4 (by simp)
            have q5 := R05.fr 5 (by simp)
            have q6 := R05.fr 6 (by simp)
            have hl5 := R05.lt (by simp)
            have hl6 := R5.lt (by simp)
            clear R5 R05
            cases hto : tevOk s.data.toList with
            | true =>
              have ht := hok.out.2 hto
              have h1 := of_decide_eq_true (hok.out.1.trans hto)
              have HT := Lib.hid (show (tev s.data.toList).enc = [.int .i64 (kd : Int), .int .i64 (fat H V 0), .int .i64 (fat H V 1), .int .i64 (fat H V 2), .int .i64 (fat H V 3), .int .i64 (fat H V 4), .bool y7] by rw [← ht]; exact hpv.out)
              have HTO := Lib.hid hto
              have e10 : ((pev W (yS W)).text == s.toList) = true := beqS_yes (by rw [h1.1])
              have e9 : (!((pev W (yS W)).text == s.toList)) = false := by rw [e10]; rfl
              clear ht h1 hto
              generalize (pev W (yS W)).text = TX at *
              go_wp2
              refine bodyPost_ret (by simp only [results, Tryz.results77]; go_simp; rfl) rfl ?_
              exact ⟨by rw [HT.out, HTO.out] <;> rfl, by (repeat (first | (with_reducible exact Below.refl _ _) | (with_reducible assumption) | (with_reducible refine Below.setCell ?_ ?side _; case side => first | (with_reducible exact Nat.le_refl _) | (simp; done) | (simp only [World.size_alloc, World.size_setCell, World.size_drew, World.heap_drewN] at *; omega)) | (with_reducible refine below_alloc ?_ _) | (with_reducible refine Below.drew ?_) | (with_reducible refine below_drewN ?_) | (with_reducible refine below_via (by assumption) ?_)))⟩
            | false =>
              have h1 := of_decide_eq_false (hok.out.1.trans hto)
              have HT := Lib.hid (show (tev s.data.toList).enc = [.int .i64 0, .int .i64 0, .int .i64 0, .int .i64 0, .int .i64 0, .int .i64 0, .bool false] by rw [tev_no hto]; rfl)
              have HTO := Lib.hid hto
              have e10 : ((pev W (yS W)).text == s.toList) = false := beqS_no (fun h => h1 ⟨congrArg (fun z : ByteArray => z.data.toList) h, Hnil.out⟩)
              have e9 : (!((pev W (yS W)).text == s.toList)) = true := by rw [e10]; rfl
              clear h1 hto
              generalize (pev W (yS W)).text = TX at *
              go_wp2
              refine bodyPost_ret (by simp only [results, Tryz.results77]; go_simp; rfl) rfl ?_
              exact ⟨by rw [HT.out, HTO.out] <;> rfl, by (repeat (first | (with_reducible exact Below.refl _ _) | (with_reducible assumption) | (with_reducible refine Below.setCell ?_ ?side _; case side => first | (with_reducible exact Nat.le_refl _) | (simp; done) | (simp only [World.size_alloc, World.size_setCell, World.size_drew, World.heap_drewN] at *; omega)) | (with_reducible refine below_alloc ?_ _) | (with_reducible refine Below.drew ?_) | (with_reducible refine below_drewN ?_) | (with_reducible refine below_via (by assumption) ?_)))⟩

end Go.Proofs.YtafbdbefmlgioaaGreatDoor
