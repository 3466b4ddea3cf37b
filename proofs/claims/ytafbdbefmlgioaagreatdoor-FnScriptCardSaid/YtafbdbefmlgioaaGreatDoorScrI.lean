/- Scripts read (impl). -/
import Derived.Test.YtafbdbefmlgioaaGreatDoorScr
import Derived.Test.YtafbdbefmlgioaaGreatDoorTstI
import Derived.Deep.DeepCutAuto
import Derived.Deep.RegionHeld3
namespace Go.Proofs.YtafbdbefmlgioaaGreatDoor
open Go.RowKit
set_option linter.unusedVariables false
set_option linter.unusedSimpArgs false

set_option maxRecDepth 100000 in
set_option maxHeartbeats 6400000 in
theorem read_impl (s : ByteArray) (hs : s.size ≤ 1048576) (w : World) (T0 : LV w) : Calls Tryz.prog 12 #[.string s] w fun e w' =>
    (∃ v us, e = .returned (.tuple #[v, .int .i64 (script s.data.toList).2]) ∧ ON StepK w' w.heap.size v (script s.data.toList).1 us) ∧ Below w.heap.size w w' := by
  have hsl : s.data.toList.length = s.size := Array.length_toList
  by_cases hbig : 8000 < s.size
  · have hsc : Hid (script s.data.toList = ([], 1)) := by unfold Hid script; rw [if_pos (by omega)]
    clear hsl
    go_enter Tryz.func12, Tryz.ntmps12
    go_wp2
    refine bodyPost_ret (by simp only [results, Tryz.results12]; go_simp; rfl) rfl ?_
    exact ⟨⟨_, [], by rw [hsc.out], by rw [hsc.out]; exact ON.nil _ _⟩, Below.refl _ _⟩
  · have hsc : Hid (script s.data.toList = rsGo [] 0 ((lnsOf s.data.toList).map S)) := by unfold Hid script; rw [if_neg (by omega)]
    have hll := lnsOf_len s.data.toList
    have hlm : ((lnsOf s.data.toList).map S).length ≤ s.size + 1 := by rw [List.length_map]; omega
    obtain ⟨L, hL⟩ : ∃ L, L = (lnsOf s.data.toList).map S := ⟨_, rfl⟩
    rw [← hL] at hlm hsc
    have HL := Lib.hid hL
    clear hL hll hsl
    go_enter Tryz.func12, Tryz.ntmps12
    go_wp2_with fail
    refine (lines_impl s hs _ (T0.keep (by (repeat (first | (with_reducible exact Below.refl _ _) | (with_reducible assumption) | (with_reducible refine Below.setCell ?_ ?side _; case side => first | (with_reducible exact Nat.le_refl _) | (simp; done) | (simp only [World.size_alloc, World.size_setCell, World.size_drew, World.heap_drewN] at *; omega)) | (with_reducible refine below_alloc ?_ _) | (with_reducible refine Below.drew ?_) | (with_reducible refine below_drewN ?_) | (with_reducible refine below_via (by assumption) ?_)))))).mono ?_
    rintro e w1 ⟨⟨a, n, c, rfl, F⟩, b1⟩
    rw [← HL.out] at F
    have B1 : Below w.heap.size w w1 := below_via b1 (by (repeat (first | (with_reducible exact Below.refl _ _) | (with_reducible assumption) | (with_reducible refine Below.setCell ?_ ?side _; case side => first | (with_reducible exact Nat.le_refl _) | (simp; done) | (simp only [World.size_alloc, World.size_setCell, World.size_drew, World.heap_drewN] at *; omega)) | (with_reducible refine below_alloc ?_ _) | (with_reducible refine Below.drew ?_) | (with_reducible refine below_drewN ?_) | (with_reducible refine below_via (by assumption) ?_))))
    have hn : n ≤ s.size + 1 := by have := F.rd.1; omega
    have HN := Lib.hid F.rd.1
    go_wp2
    go_loopw [4, 5, 6, 7, 8, 15] (fun v _ _ _ _ i wr => ∃ (k : Nat) (out : List St) (us : List Value), k ≤ n ∧ i = .int .i64 k ∧ out.length ≤ 300 ∧ ON StepK wr w.heap.size v out us ∧ LnR wr a n L ∧ Hid (rsGo [] 0 L = rsGo out k (L.drop k)) ∧ Below w.heap.size w wr) (fun _ _ _ _ _ i _ => n - (intOf i).toNat)
    case atStart => exact ⟨0, [], [], Nat.zero_le _, rfl, Nat.zero_le _, ON.nil _ _, F, rfl, B1⟩
    case round =>
      obtain ⟨k, out, us, hk, rfl, ho3, hon, F2, hsc2, hB⟩ := hrel
      by_cases hlt : k < n
      · obtain ⟨b, off, x, rfl, hb, hc, hbd, hx, -⟩ := F2.rd.at_ hlt
        have hc0 := hc 0 _ rfl
        simp only [Nat.mul_one, Nat.add_zero] at hc0
        have hbd2 : x.size ≤ 1048576 := hbd
        have hdr : Hid (L.drop k = x :: L.drop (k + 1)) := by
          unfold Hid
          obtain ⟨h1, h2⟩ := List.getElem?_eq_some_iff.1 hx.out
          rw [List.drop_eq_getElem_cons h1, h2]
        clear hc hbd
        by_cases hx0 : x.size = 0
        · obtain ⟨q1, q2⟩ := str_em hx0
          have hr : Hid (rsGo [] 0 L = rsGo out (k + 1) (L.drop (k + 1))) := by unfold Hid; rw [hsc2.out, hdr.out, rsGo, if_pos (quiet_em hx0)]
          clear hx0
          go_wp2
          go_roundw
          case rel => exact ⟨k + 1, out, us, by omega, by go_num, ho3, hon, F2, hr, hB⟩
          case measure => simp [intOf]; omega
        · have hx1 : 0 < x.size := by omega
          obtain ⟨q1, q2⟩ := str_ne hx1
          have hbt := byte_bd x[0]
          by_cases hx2 : x[0].toNat = 35
          · have e1 : ((x[0].toNat : Int) == 35) = true := by simp; omega
            have hr : Hid (rsGo [] 0 L = rsGo out (k + 1) (L.drop (k + 1))) := by unfold Hid; rw [hsc2.out, hdr.out, rsGo, if_pos (by rw [quiet_pos hx1]; simp; exact UInt8.toNat_inj.1 hx2)]
            go_wp2
            go_roundw
            case rel => exact ⟨k + 1, out, us, by omega, by go_num, ho3, hon, F2, hr, hB⟩
            case measure => simp [intOf]; omega
          · have e1 : ((x[0].toNat : Int) == 35) = false := by simp; omega
            have hq : Hid (quietB x = false) := by unfold Hid; rw [quiet_pos hx1]; simp; exact fun e => hx2 (by rw [e]; rfl)
            have TK := T0.keep hB
            obtain ⟨va, vc, rfl, hvc, hvm⟩ := hon.form
            have C := fun w0 => textStep_impl x hbd2 w0
            cases hok : tsOk x.data.toList with
            | false =>
              have hr : Hid (script s.data.toList = ([], (k : Int) + 1)) := by unfold Hid; rw [hsc.out, hsc2.out, hdr.out, rsGo, if_neg (by rw [hq.out]; simp), if_neg (by rw [hok]; simp)]
              simp only [hok] at C
              go_upto_region 8 with fail
              go_wp2_with fail
              refine (C _ (TK.keep (by (repeat (first | (with_reducible exact Below.refl _ _) | (with_reducible assumption) | (with_reducible refine Below.setCell ?_ ?side _; case side => first | (with_reducible exact Nat.le_refl _) | (simp; done) | (simp only [World.size_alloc, World.size_setCell, World.size_drew, World.heap_drewN] at *; omega)) | (with_reducible refine below_alloc ?_ _) | (with_reducible refine Below.drew ?_) | (with_reducible refine below_drewN ?_) | (with_reducible refine below_via (by assumption) ?_)))))).mono ?_
              rintro e w2 ⟨⟨a2, c2, he2, hin⟩, b2⟩
              obtain ⟨y, hy⟩ : ∃ y, y = ts x.data.toList := ⟨_, rfl⟩
              rw [← hy] at he2 hin
              subst he2
              have HY := Lib.hid hy
              clear hy
              have B2 : Below w.heap.size w w2 := below_via b2 (by (repeat (first | (with_reducible exact Below.refl _ _) | (with_reducible assumption) | (with_reducible refine Below.setCell ?_ ?side _; case side => first | (with_reducible exact Nat.le_refl _) | (simp; done) | (simp only [World.size_alloc, World.size_setCell, World.size_drew, World.heap_drewN] at *; omega)) | (with_reducible refine below_alloc ?_ _) | (with_reducible refine Below.drew ?_) | (with_reducible refine below_drewN ?_) | (with_reducible refine below_via (by assumption) ?_))) : Below w.heap.size w _)
              have hQ0 : Bx (w2.alloc (.cells #[.int .i64 0, .int .i64 0, .int .i64 0, .int .i64 0, .int .i64 0, .int .i64 0, .int .i64 0, .bool false, .slice none 0 0, .int .i64 0, .int .i64 0, .int .i64 0, .int .i64 0, .int .i64 0] 79)) w2.heap.size [.int .i64 0, .int .i64 0, .int .i64 0, .int .i64 0, .int .i64 0, .int .i64 0, .int .i64 0, .bool false, .slice none 0 0, .int .i64 0, .int .i64 0, .int .i64 0, .int .i64 0, .int .i64 0] := Bx.new _ _ _ [.int .i64 0, .int .i64 0, .int .i64 0, .int .i64 0, .int .i64 0, .int .i64 0, .int .i64 0, .bool false, .slice none 0 0, .int .i64 0, .int .i64 0, .int .i64 0, .int .i64 0, .int .i64 0] rfl (by exact Nat.zero_lt_succ _) _ rfl
              go_upto_region 9 with ((show Go.wpList _ _ _ ((Go.Oper.mk _ (Go.Op.store 79 _ _) _ _ _ _) :: _) _ _); refine wpList_store_row infStp rfl _ _ rfl w2.heap.size 0 [.int .i64 y.kind, .int .i64 y.ev.kind, .int .i64 y.ev.key, .int .i64 y.ev.ch, .int .i64 y.ev.to, .int .i64 y.ev.amt, .int .i64 y.ev.fee, .bool y.ev.yes, .slice a2 y.keep.length c2, .int .i64 y.lo, .int .i64 y.hi, .int .i64 y.step, .int .i64 y.mn, .int .i64 y.mx] rfl rfl (hQ0.there 0 14 (by exact Nat.le_of_ble_eq_true rfl)) rfl (St.one y a2 c2) ?_)
              have B3 : Below w.heap.size w ((w2.alloc (.cells #[.int .i64 0, .int .i64 0, .int .i64 0, .int .i64 0, .int .i64 0, .int .i64 0, .int .i64 0, .bool false, .slice none 0 0, .int .i64 0, .int .i64 0, .int .i64 0, .int .i64 0, .int .i64 0] 79)).setCells w2.heap.size 0 [.int .i64 y.kind, .int .i64 y.ev.kind, .int .i64 y.ev.key, .int .i64 y.ev.ch, .int .i64 y.ev.to, .int .i64 y.ev.amt, .int .i64 y.ev.fee, .bool y.ev.yes, .slice a2 y.keep.length c2, .int .i64 y.lo, .int .i64 y.hi, .int .i64 y.step, .int .i64 y.mn, .int .i64 y.mx]) := below_setCells2 B2.size [.int .i64 y.kind, .int .i64 y.ev.kind, .int .i64 y.ev.key, .int .i64 y.ev.ch, .int .i64 y.ev.to, .int .i64 y.ev.amt, .int .i64 y.ev.fee, .bool y.ev.yes, .slice a2 y.keep.length c2, .int .i64 y.lo, .int .i64 y.hi, .int .i64 y.step, .int .i64 y.mn, .int .i64 y.mx] _ _ (below_alloc B2 _)
              generalize (w2.alloc (.cells #[.int .i64 0, .int .i64 0, .int .i64 0, .int .i64 0, .int .i64 0, .int .i64 0, .int .i64 0, .bool false, .slice none 0 0, .int .i64 0, .int .i64 0, .int .i64 0, .int .i64 0, .int .i64 0] 79)).setCells w2.heap.size 0 [.int .i64 y.kind, .int .i64 y.ev.kind, .int .i64 y.ev.key, .int .i64 y.ev.ch, .int .i64 y.ev.to, .int .i64 y.ev.amt, .int .i64 y.ev.fee, .bool y.ev.yes, .slice a2 y.keep.length c2, .int .i64 y.lo, .int .i64 y.hi, .int .i64 y.step, .int .i64 y.mn, .int .i64 y.mx] = X at B3 ⊢
              go_wp2
              refine bodyPost_ret (by simp only [results, Tryz.results12]; go_simp; rfl) rfl ?_
              exact ⟨⟨_, [], by rw [hr.out] <;> go_num, by rw [hr.out]; exact ON.nil _ _⟩, B3⟩
            | true =>
              by_cases h300 : out.length < 300
              · have hr : Hid (rsGo [] 0 L = rsGo (out ++ [ts x.data.toList]) (k + 1) (L.drop (k + 1))) := by unfold Hid; rw [hsc2.out, hdr.out, rsGo, if_neg (by rw [hq.out]; simp), if_pos ⟨hok, h300⟩]
                have e3 : ¬ (300 : Int) ≤ (out.length : Int) := by omega
                simp only [hok] at C
                go_upto_region 8 with fail
                go_wp2_with fail
                refine (C _ (TK.keep (by (repeat (first | (with_reducible exact Below.refl _ _) | (with_reducible assumption) | (with_reducible refine Below.setCell ?_ ?side _; case side => first | (with_reducible exact Nat.le_refl _) | (simp; done) | (simp only [World.size_alloc, World.size_setCell, World.size_drew, World.heap_drewN] at *; omega)) | (with_reducible refine below_alloc ?_ _) | (with_reducible refine Below.drew ?_) | (with_reducible refine below_drewN ?_) | (with_reducible refine below_via (by assumption) ?_)))))).mono ?_
                rintro e w2 ⟨⟨a2, c2, he2, hin⟩, b2⟩
                obtain ⟨y, hy⟩ : ∃ y, y = ts x.data.toList := ⟨_, rfl⟩
                rw [← hy] at he2 hin
                subst he2
                have HY := Lib.hid hy
                clear hy
                have B2 : Below w.heap.size w w2 := below_via b2 (by (repeat (first | (with_reducible exact Below.refl _ _) | (with_reducible assumption) | (with_reducible refine Below.setCell ?_ ?side _; case side => first | (with_reducible exact Nat.le_refl _) | (simp; done) | (simp only [World.size_alloc, World.size_setCell, World.size_drew, World.heap_drewN] at *; omega)) | (with_reducible refine below_alloc ?_ _) | (with_reducible refine Below.drew ?_) | (with_reducible refine below_drewN ?_) | (with_reducible refine below_via (by assumption) ?_))) : Below w.heap.size w _)
                have hon2 := hon.keep b2
                have F3 := F2.keep b2
                have hfr : ∀ j ∈ (Value.slice a2 y.keep.length c2).ownBlock.toList, j ∉ blks (.slice va out.length vc :: us) := fun j hj hb => by
                  have h1 := (own_lt hin j hj).1
                  have h2 := (hon.lt j hb).2
                  omega
                have hin2 := OwnF.le (OwnI.inr.1 hin) (B' := w.heap.size) hB.size
                have hkp : ∀ z ∈ y.keep, I64 z := fun z hz => by
                  rw [HY.out] at hz
                  have := (ts_keep2 x.data.toList (by rw [sz_len]; exact hbd2)).2 z hz
                  unfold I64
                  omega
                have HFR := Lib.hid hfr
                have HKP := Lib.hid hkp
                clear hfr hkp hin
                have hQ0 : Bx (w2.alloc (.cells #[.int .i64 0, .int .i64 0, .int .i64 0, .int .i64 0, .int .i64 0, .int .i64 0, .int .i64 0, .bool false, .slice none 0 0, .int .i64 0, .int .i64 0, .int .i64 0, .int .i64 0, .int .i64 0] 79)) w2.heap.size [.int .i64 0, .int .i64 0, .int .i64 0, .int .i64 0, .int .i64 0, .int .i64 0, .int .i64 0, .bool false, .slice none 0 0, .int .i64 0, .int .i64 0, .int .i64 0, .int .i64 0, .int .i64 0] := Bx.new _ _ _ [.int .i64 0, .int .i64 0, .int .i64 0, .int .i64 0, .int .i64 0, .int .i64 0, .int .i64 0, .bool false, .slice none 0 0, .int .i64 0, .int .i64 0, .int .i64 0, .int .i64 0, .int .i64 0] rfl (by exact Nat.zero_lt_succ _) _ rfl
                go_upto_region 9 with ((show Go.wpList _ _ _ ((Go.Oper.mk _ (Go.Op.store 79 _ _) _ _ _ _) :: _) _ _); refine wpList_store_row infStp rfl _ _ rfl w2.heap.size 0 [.int .i64 y.kind, .int .i64 y.ev.kind, .int .i64 y.ev.key, .int .i64 y.ev.ch, .int .i64 y.ev.to, .int .i64 y.ev.amt, .int .i64 y.ev.fee, .bool y.ev.yes, .slice a2 y.keep.length c2, .int .i64 y.lo, .int .i64 y.hi, .int .i64 y.step, .int .i64 y.mn, .int .i64 y.mx] rfl rfl (hQ0.there 0 14 (by exact Nat.le_of_ble_eq_true rfl)) rfl (St.one y a2 c2) ?_)
                have D3 : Below w2.heap.size w2 ((w2.alloc (.cells #[.int .i64 0, .int .i64 0, .int .i64 0, .int .i64 0, .int .i64 0, .int .i64 0, .int .i64 0, .bool false, .slice none 0 0, .int .i64 0, .int .i64 0, .int .i64 0, .int .i64 0, .int .i64 0] 79)).setCells w2.heap.size 0 [.int .i64 y.kind, .int .i64 y.ev.kind, .int .i64 y.ev.key, .int .i64 y.ev.ch, .int .i64 y.ev.to, .int .i64 y.ev.amt, .int .i64 y.ev.fee, .bool y.ev.yes, .slice a2 y.keep.length c2, .int .i64 y.lo, .int .i64 y.hi, .int .i64 y.step, .int .i64 y.mn, .int .i64 y.mx]) := below_setCells2 (Nat.le_refl _) [.int .i64 y.kind, .int .i64 y.ev.kind, .int .i64 y.ev.key, .int .i64 y.ev.ch, .int .i64 y.ev.to, .int .i64 y.ev.amt, .int .i64 y.ev.fee, .bool y.ev.yes, .slice a2 y.keep.length c2, .int .i64 y.lo, .int .i64 y.hi, .int .i64 y.step, .int .i64 y.mn, .int .i64 y.mx] _ _ (below_alloc (Below.refl _ _) _)
                have hQ : Bx ((w2.alloc (.cells #[.int .i64 0, .int .i64 0, .int .i64 0, .int .i64 0, .int .i64 0, .int .i64 0, .int .i64 0, .bool false, .slice none 0 0, .int .i64 0, .int .i64 0, .int .i64 0, .int .i64 0, .int .i64 0] 79)).setCells w2.heap.size 0 [.int .i64 y.kind, .int .i64 y.ev.kind, .int .i64 y.ev.key, .int .i64 y.ev.ch, .int .i64 y.ev.to, .int .i64 y.ev.amt, .int .i64 y.ev.fee, .bool y.ev.yes, .slice a2 y.keep.length c2, .int .i64 y.lo, .int .i64 y.hi, .int .i64 y.step, .int .i64 y.mn, .int .i64 y.mx]) w2.heap.size [.int .i64 y.kind, .int .i64 y.ev.kind, .int .i64 y.ev.key, .int .i64 y.ev.ch, .int .i64 y.ev.to, .int .i64 y.ev.amt, .int .i64 y.ev.fee, .bool y.ev.yes, .slice a2 y.keep.length c2, .int .i64 y.lo, .int .i64 y.hi, .int .i64 y.step, .int .i64 y.mn, .int .i64 y.mx] := hQ0.set0 rfl
                generalize (w2.alloc (.cells #[.int .i64 0, .int .i64 0, .int .i64 0, .int .i64 0, .int .i64 0, .int .i64 0, .int .i64 0, .bool false, .slice none 0 0, .int .i64 0, .int .i64 0, .int .i64 0, .int .i64 0, .int .i64 0] 79)).setCells w2.heap.size 0 [.int .i64 y.kind, .int .i64 y.ev.kind, .int .i64 y.ev.key, .int .i64 y.ev.ch, .int .i64 y.ev.to, .int .i64 y.ev.amt, .int .i64 y.ev.fee, .bool y.ev.yes, .slice a2 y.keep.length c2, .int .i64 y.lo, .int .i64 y.hi, .int .i64 y.step, .int .i64 y.mn, .int .i64 y.mx] = X at D3 hQ ⊢
                have B3 : Below w.heap.size w X := below_via D3 B2
                have hon3 := hon2.keep D3
                have hin3 := OwnF.keep hin2 D3
                have F4 := F3.keep D3
                have hzX : w.heap.size ≤ X.heap.size := B3.size
                clear hQ0 hon2 hin2 F3 D3
                go_wp2_with (first | ((show Go.wpList _ _ _ ((Go.Oper.mk _ (Go.Op.load 79 _) _ _ _ _) :: _) _ _); refine wpList_load_row unStp infStp rfl _ rfl _ _ rfl [.int .i64 y.kind, .int .i64 y.ev.kind, .int .i64 y.ev.key, .int .i64 y.ev.ch, .int .i64 y.ev.to, .int .i64 y.ev.amt, .int .i64 y.ev.fee, .bool y.ev.yes, .slice a2 y.keep.length c2, .int .i64 y.lo, .int .i64 y.hi, .int .i64 y.step, .int .i64 y.mn, .int .i64 y.mx] hQ.at_ rfl ?_) | (at_builtin; refine wpList_append_on (K := StepK) infoStep Tryz.underlying66 rfl (by decide) (by decide) StepK_one rfl _ _ rfl w.heap.size _ _ _ rfl (hon3.keep (by (repeat (first | (with_reducible exact Below.refl _ _) | (with_reducible assumption) | (with_reducible refine Below.setCell ?_ ?side _; case side => first | (with_reducible exact Nat.le_refl _) | (simp; done) | (simp only [World.size_alloc, World.size_setCell, World.size_drew, World.heap_drewN] at *; omega)) | (with_reducible refine below_alloc ?_ _) | (with_reducible refine Below.drew ?_) | (with_reducible refine below_drewN ?_) | (with_reducible refine below_via (by assumption) ?_))))) _ y (.slice a2 y.keep.length c2) rfl rfl (new_cells _ _ _ rfl) (by omega) (Nat.le_trans hzX (size_alloc_le _ _)) (by decide) (OwnF.keep hin3 (by (repeat (first | (with_reducible exact Below.refl _ _) | (with_reducible assumption) | (with_reducible refine Below.setCell ?_ ?side _; case side => first | (with_reducible exact Nat.le_refl _) | (simp; done) | (simp only [World.size_alloc, World.size_setCell, World.size_drew, World.heap_drewN] at *; omega)) | (with_reducible refine below_alloc ?_ _) | (with_reducible refine Below.drew ?_) | (with_reducible refine below_drewN ?_) | (with_reducible refine below_via (by assumption) ?_))))) trivial HKP.out HFR.out ?_))
                intro v4 w4 hon4 hb4 hg4
                have F5 := (F4.keep (below_alloc (Below.refl _ _) _)).grown (hon3.keep (below_alloc (Below.refl _ _) _)) hg4
                have B5 : Below w.heap.size w w4 := (below_alloc B3 _).trans hb4
                clear hon3 hin3 hg4 hb4 F4
                go_wp2
                go_roundw
                case rel => exact ⟨k + 1, out ++ [y], us ++ [.slice a2 y.keep.length c2], by omega, by go_num, by rw [List.length_append, List.length_singleton]; omega, hon4, F5, by rw [HY.out]; exact hr, B5⟩
                case measure => simp only [intOf]; omega
              · have hr : Hid (script s.data.toList = ([], (k : Int) + 1)) := by unfold Hid; rw [hsc.out, hsc2.out, hdr.out, rsGo, if_neg (by rw [hq.out]; simp), if_neg (by omega)]
                have e3 : (300 : Int) ≤ (out.length : Int) := by omega
                simp only [hok] at C
                go_upto_region 8 with fail
                go_wp2_with fail
                refine (C _ (TK.keep (by (repeat (first | (with_reducible exact Below.refl _ _) | (with_reducible assumption) | (with_reducible refine Below.setCell ?_ ?side _; case side => first | (with_reducible exact Nat.le_refl _) | (simp; done) | (simp only [World.size_alloc, World.size_setCell, World.size_drew, World.heap_drewN] at *; omega)) | (with_reducible refine below_alloc ?_ _) | (with_reducible refine Below.drew ?_) | (with_reducible refine below_drewN ?_) | (with_reducible refine below_via (by assumption) ?_)))))).mono ?_
                rintro e w2 ⟨⟨a2, c2, he2, hin⟩, b2⟩
                obtain ⟨y, hy⟩ : ∃ y, y = ts x.data.toList := ⟨_, rfl⟩
                rw [← hy] at he2 hin
                subst he2
                have HY := Lib.hid hy
                clear hy
                have B2 : Below w.heap.size w w2 := below_via b2 (by (repeat (first | (with_reducible exact Below.refl _ _) | (with_reducible assumption) | (with_reducible refine Below.setCell ?_ ?side _; case side => first | (with_reducible exact Nat.le_refl _) | (simp; done) | (simp only [World.size_alloc, World.size_setCell, World.size_drew, World.heap_drewN] at *; omega)) | (with_reducible refine below_alloc ?_ _) | (with_reducible refine Below.drew ?_) | (with_reducible refine below_drewN ?_) | (with_reducible refine below_via (by assumption) ?_))) : Below w.heap.size w _)
                have hQ0 : Bx (w2.alloc (.cells #[.int .i64 0, .int .i64 0, .int .i64 0, .int .i64 0, .int .i64 0, .int .i64 0, .int .i64 0, .bool false, .slice none 0 0, .int .i64 0, .int .i64 0, .int .i64 0, .int .i64 0, .int .i64 0] 79)) w2.heap.size [.int .i64 0, .int .i64 0, .int .i64 0, .int .i64 0, .int .i64 0, .int .i64 0, .int .i64 0, .bool false, .slice none 0 0, .int .i64 0, .int .i64 0, .int .i64 0, .int .i64 0, .int .i64 0] := Bx.new _ _ _ [.int .i64 0, .int .i64 0, .int .i64 0, .int .i64 0, .int .i64 0, .int .i64 0, .int .i64 0, .bool false, .slice none 0 0, .int .i64 0, .int .i64 0, .int .i64 0, .int .i64 0, .int .i64 0] rfl (by exact Nat.zero_lt_succ _) _ rfl
                clear hin
                go_upto_region 9 with ((show Go.wpList _ _ _ ((Go.Oper.mk _ (Go.Op.store 79 _ _) _ _ _ _) :: _) _ _); refine wpList_store_row infStp rfl _ _ rfl w2.heap.size 0 [.int .i64 y.kind, .int .i64 y.ev.kind, .int .i64 y.ev.key, .int .i64 y.ev.ch, .int .i64 y.ev.to, .int .i64 y.ev.amt, .int .i64 y.ev.fee, .bool y.ev.yes, .slice a2 y.keep.length c2, .int .i64 y.lo, .int .i64 y.hi, .int .i64 y.step, .int .i64 y.mn, .int .i64 y.mx] rfl rfl (hQ0.there 0 14 (by exact Nat.le_of_ble_eq_true rfl)) rfl (St.one y a2 c2) ?_)
                have B3 : Below w.heap.size w ((w2.alloc (.cells #[.int .i64 0, .int .i64 0, .int .i64 0, .int .i64 0, .int .i64 0, .int .i64 0, .int .i64 0, .bool false, .slice none 0 0, .int .i64 0, .int .i64 0, .int .i64 0, .int .i64 0, .int .i64 0] 79)).setCells w2.heap.size 0 [.int .i64 y.kind, .int .i64 y.ev.kind, .int .i64 y.ev.key, .int .i64 y.ev.ch, .int .i64 y.ev.to, .int .i64 y.ev.amt, .int .i64 y.ev.fee, .bool y.ev.yes, .slice a2 y.keep.length c2, .int .i64 y.lo, .int .i64 y.hi, .int .i64 y.step, .int .i64 y.mn, .int .i64 y.mx]) := below_setCells2 B2.size [.int .i64 y.kind, .int .i64 y.ev.kind, .int .i64 y.ev.key, .int .i64 y.ev.ch, .int .i64 y.ev.to, .int .i64 y.ev.amt, .int .i64 y.ev.fee, .bool y.ev.yes, .slice a2 y.keep.length c2, .int .i64 y.lo, .int .i64 y.hi, .int .i64 y.step, .int .i64 y.mn, .int .i64 y.mx] _ _ (below_alloc B2 _)
                generalize (w2.alloc (.cells #[.int .i64 0, .int .i64 0, .int .i64 0, .int .i64 0, .int .i64 0, .int .i64 0, .int .i64 0, .bool false, .slice none 0 0, .int .i64 0, .int .i64 0, .int .i64 0, .int .i64 0, .int .i64 0] 79)).setCells w2.heap.size 0 [.int .i64 y.kind, .int .i64 y.ev.kind, .int .i64 y.ev.key, .int .i64 y.ev.ch, .int .i64 y.ev.to, .int .i64 y.ev.amt, .int .i64 y.ev.fee, .bool y.ev.yes, .slice a2 y.keep.length c2, .int .i64 y.lo, .int .i64 y.hi, .int .i64 y.step, .int .i64 y.mn, .int .i64 y.mx] = X at B3 ⊢
                go_wp2
                refine bodyPost_ret (by simp only [results, Tryz.results12]; go_simp; rfl) rfl ?_
                exact ⟨⟨_, [], by rw [hr.out] <;> go_num, by rw [hr.out]; exact ON.nil _ _⟩, B3⟩
      · have hr : Hid (script s.data.toList = (out, 0)) := by
          unfold Hid
          rw [hsc.out, hsc2.out, List.drop_eq_nil_of_le (by have := HN.out; omega)]
          rfl
        go_wp2
        refine bodyPost_ret (by simp only [results, Tryz.results12]; go_simp; rfl) rfl ?_
        exact ⟨⟨_, us, by rw [hr.out], by rw [hr.out]; exact hon⟩, hB⟩

theorem quiet_spec (s : ByteArray) (w : World) : Calls Tryz.prog 36 #[.string s] w fun e w' => e = .returned (.bool (quietB s)) ∧ w = w' := by
  by_cases h0 : s.size = 0
  · obtain ⟨q1, q2⟩ := str_em h0
    have hq := Lib.hid (quiet_em h0)
    clear h0
    go_enter Tryz.func36, Tryz.ntmps36
    go_wp2
    go_ret
    exact ⟨ret_bool (by rw [hq.out]), rfl⟩
  · have hx1 : 0 < s.size := by omega
    obtain ⟨q1, q2⟩ := str_ne hx1
    have hbt := byte_bd s[0]
    have hq := Lib.hid (quiet_pos hx1)
    by_cases hx2 : s[0].toNat = 35
    · have e1 : ((s[0].toNat : Int) == 35) = true := by simp; omega
      have hb : Hid (quietB s = true) := by unfold Hid; rw [hq.out]; simp; exact UInt8.toNat_inj.1 hx2
      go_enter Tryz.func36, Tryz.ntmps36
      go_wp2
      go_ret
      exact ⟨ret_bool (by rw [hb.out]), rfl⟩
    · have e1 : ((s[0].toNat : Int) == 35) = false := by simp; omega
      have hb : Hid (quietB s = false) := by unfold Hid; rw [hq.out]; simp; exact fun e => hx2 (by rw [e]; rfl)
      go_enter Tryz.func36, Tryz.ntmps36
      go_wp2
      go_ret
      exact ⟨ret_bool (by rw [hb.out]), rfl⟩

set_option maxRecDepth 100000 in
set_option maxHeartbeats 6400000 in
theorem read_spec (s : ByteArray) (hs : s.size ≤ 1048576) (w : World) : Calls Tryz.prog 11 #[.string s] w fun e w' =>
    (∃ v us, e = .returned (.tuple #[v, .int .i64 (script s.data.toList).2]) ∧ ON StepK w' w.heap.size v (script s.data.toList).1 us) ∧ Below w.heap.size w w' := by
  have hsl : s.data.toList.length = s.size := Array.length_toList
  by_cases hbig : 8000 < s.size
  · have hsc : Hid (script s.data.toList = ([], 1)) := by unfold Hid script; rw [if_pos (by omega)]
    clear hsl
    go_enter Tryz.func11, Tryz.ntmps11
    go_wp2
    refine bodyPost_ret (by simp only [results, Tryz.results11]; go_simp; rfl) rfl ?_
    exact ⟨⟨_, [], by rw [hsc.out], by rw [hsc.out]; exact ON.nil _ _⟩, Below.refl _ _⟩
  · have hsc : Hid (script s.data.toList = rsGo [] 0 ((lnsOf s.data.toList).map S)) := by unfold Hid script; rw [if_neg (by omega)]
    have hll := lnsOf_len s.data.toList
    have hlm : ((lnsOf s.data.toList).map S).length ≤ s.size + 1 := by rw [List.length_map]; omega
    obtain ⟨L, hL⟩ : ∃ L, L = (lnsOf s.data.toList).map S := ⟨_, rfl⟩
    rw [← hL] at hlm hsc
    have HL := Lib.hid hL
    clear hL hll hsl
    go_enter Tryz.func11, Tryz.ntmps11
    go_wp2_with fail
    refine (lines_spec s hs _ ).mono ?_
    rintro e w1 ⟨⟨a, n, c, rfl, F⟩, b1⟩
    rw [← HL.out] at F
    have B1 : Below w.heap.size w w1 := below_via b1 (by (repeat (first | (with_reducible exact Below.refl _ _) | (with_reducible assumption) | (with_reducible refine Below.setCell ?_ ?side _; case side => first | (with_reducible exact Nat.le_refl _) | (simp; done) | (simp only [World.size_alloc, World.size_setCell, World.size_drew, World.heap_drewN] at *; omega)) | (with_reducible refine below_alloc ?_ _) | (with_reducible refine Below.drew ?_) | (with_reducible refine below_drewN ?_) | (with_reducible refine below_via (by assumption) ?_))))
    have hn : n ≤ s.size + 1 := by have := F.rd.1; omega
    have HN := Lib.hid F.rd.1
    go_wp2
    go_loopw [4, 5, 6, 7, 8, 16] (fun v _ _ _ _ i wr => ∃ (k : Nat) (out : List St) (us : List Value), k ≤ n ∧ i = .int .i64 k ∧ out.length ≤ 300 ∧ ON StepK wr w.heap.size v out us ∧ LnR wr a n L ∧ Hid (rsGo [] 0 L = rsGo out k (L.drop k)) ∧ Below w.heap.size w wr) (fun _ _ _ _ _ i _ => n - (intOf i).toNat)
    case atStart => exact ⟨0, [], [], Nat.zero_le _, rfl, Nat.zero_le _, (ON.made (K := StepK) w).keep b1, F, rfl, B1⟩
    case round =>
      obtain ⟨k, out, us, hk, rfl, ho3, hon, F2, hsc2, hB⟩ := hrel
      by_cases hlt : k < n
      · obtain ⟨b, off, x, rfl, hb, hc, hbd, hx, -⟩ := F2.rd.at_ hlt
        have hc0 := hc 0 _ rfl
        simp only [Nat.mul_one, Nat.add_zero] at hc0
        have hbd2 : x.size ≤ 1048576 := hbd
        have hdr : Hid (L.drop k = x :: L.drop (k + 1)) := by
          unfold Hid
          obtain ⟨h1, h2⟩ := List.getElem?_eq_some_iff.1 hx.out
          rw [List.drop_eq_getElem_cons h1, h2]
        clear hc hbd
        have CQ := fun w0 => quiet_spec x w0
        cases hqx : quietB x with
        | true =>
          have hr : Hid (rsGo [] 0 L = rsGo out (k + 1) (L.drop (k + 1))) := by unfold Hid; rw [hsc2.out, hdr.out, rsGo, if_pos hqx]
          simp only [hqx] at CQ
          clear hqx
          go_wp2_with fail
          refine (CQ _).mono ?_
          rintro e w9 ⟨rfl, rfl⟩
          go_wp2
          go_roundw
          case rel => exact ⟨k + 1, out, us, by omega, by go_num, ho3, hon, F2, hr, hB⟩
          case measure => simp only [intOf]; omega
        | false =>
            have hq : Hid (quietB x = false) := hqx
            simp only [hqx] at CQ
            clear hqx
            go_wp2_with fail
            refine (CQ _).mono ?_
            rintro e w9 ⟨rfl, rfl⟩
            clear CQ
            obtain ⟨va, vc, rfl, hvc, hvm⟩ := hon.form
            have C := fun w0 => textStep_spec x hbd2 w0
            cases hok : tsOk x.data.toList with
            | false =>
              have hr : Hid (script s.data.toList = ([], (k : Int) + 1)) := by unfold Hid; rw [hsc.out, hsc2.out, hdr.out, rsGo, if_neg (by rw [hq.out]; simp), if_neg (by rw [hok]; simp)]
              simp only [hok] at C
              go_upto_region 8 with fail
              go_wp2_with fail
              refine (C _).mono ?_
              rintro e w2 ⟨⟨a2, c2, he2, hin⟩, b2⟩
              obtain ⟨y, hy⟩ : ∃ y, y = ts x.data.toList := ⟨_, rfl⟩
              rw [← hy] at he2 hin
              subst he2
              have HY := Lib.hid hy
              clear hy
              have B2 : Below w.heap.size w w2 := below_via b2 (by (repeat (first | (with_reducible exact Below.refl _ _) | (with_reducible assumption) | (with_reducible refine Below.setCell ?_ ?side _; case side => first | (with_reducible exact Nat.le_refl _) | (simp; done) | (simp only [World.size_alloc, World.size_setCell, World.size_drew, World.heap_drewN] at *; omega)) | (with_reducible refine below_alloc ?_ _) | (with_reducible refine Below.drew ?_) | (with_reducible refine below_drewN ?_) | (with_reducible refine below_via (by assumption) ?_))) : Below w.heap.size w _)
              have hQ0 : Bx (w2.alloc (.cells #[.int .i64 0, .int .i64 0, .int .i64 0, .int .i64 0, .int .i64 0, .int .i64 0, .int .i64 0, .bool false, .slice none 0 0, .int .i64 0, .int .i64 0, .int .i64 0, .int .i64 0, .int .i64 0] 79)) w2.heap.size [.int .i64 0, .int .i64 0, .int .i64 0, .int .i64 0, .int .i64 0, .int .i64 0, .int .i64 0, .bool false, .slice none 0 0, .int .i64 0, .int .i64 0, .int .i64 0, .int .i64 0, .int .i64 0] := Bx.new _ _ _ [.int .i64 0, .int .i64 0, .int .i64 0, .int .i64 0, .int .i64 0, .int .i64 0, .int .i64 0, .bool false, .slice none 0 0, .int .i64 0, .int .i64 0, .int .i64 0, .int .i64 0, .int .i64 0] rfl (by exact Nat.zero_lt_succ _) _ rfl
              go_upto_region 9 with ((show Go.wpList _ _ _ ((Go.Oper.mk _ (Go.Op.store 79 _ _) _ _ _ _) :: _) _ _); refine wpList_store_row infStp rfl _ _ rfl w2.heap.size 0 [.int .i64 y.kind, .int .i64 y.ev.kind, .int .i64 y.ev.key, .int .i64 y.ev.ch, .int .i64 y.ev.to, .int .i64 y.ev.amt, .int .i64 y.ev.fee, .bool y.ev.yes, .slice a2 y.keep.length c2, .int .i64 y.lo, .int .i64 y.hi, .int .i64 y.step, .int .i64 y.mn, .int .i64 y.mx] rfl rfl (hQ0.there 0 14 (by exact Nat.le_of_ble_eq_true rfl)) rfl (St.one y a2 c2) ?_)
              have B3 : Below w.heap.size w ((w2.alloc (.cells #[.int .i64 0, .int .i64 0, .int .i64 0, .int .i64 0, .int .i64 0, .int .i64 0, .int .i64 0, .bool false, .slice none 0 0, .int .i64 0, .int .i64 0, .int .i64 0, .int .i64 0, .int .i64 0] 79)).setCells w2.heap.size 0 [.int .i64 y.kind, .int .i64 y.ev.kind, .int .i64 y.ev.key, .int .i64 y.ev.ch, .int .i64 y.ev.to, .int .i64 y.ev.amt, .int .i64 y.ev.fee, .bool y.ev.yes, .slice a2 y.keep.length c2, .int .i64 y.lo, .int .i64 y.hi, .int .i64 y.step, .int .i64 y.mn, .int .i64 y.mx]) := below_setCells2 B2.size [.int .i64 y.kind, .int .i64 y.ev.kind, .int .i64 y.ev.key, .int .i64 y.ev.ch, .int .i64 y.ev.to, .int .i64 y.ev.amt, .int .i64 y.ev.fee, .bool y.ev.yes, .slice a2 y.keep.length c2, .int .i64 y.lo, .int .i64 y.hi, .int .i64 y.step, .int .i64 y.mn, .int .i64 y.mx] _ _ (below_alloc B2 _)
              generalize (w2.alloc (.cells #[.int .i64 0, .int .i64 0, .int .i64 0, .int .i64 0, .int .i64 0, .int .i64 0, .int .i64 0, .bool false, .slice none 0 0, .int .i64 0, .int .i64 0, .int .i64 0, .int .i64 0, .int .i64 0] 79)).setCells w2.heap.size 0 [.int .i64 y.kind, .int .i64 y.ev.kind, .int .i64 y.ev.key, .int .i64 y.ev.ch, .int .i64 y.ev.to, .int .i64 y.ev.amt, .int .i64 y.ev.fee, .bool y.ev.yes, .slice a2 y.keep.length c2, .int .i64 y.lo, .int .i64 y.hi, .int .i64 y.step, .int .i64 y.mn, .int .i64 y.mx] = X at B3 ⊢
              go_wp2
              refine bodyPost_ret (by simp only [results, Tryz.results11]; go_simp; rfl) rfl ?_
              exact ⟨⟨_, [], by rw [hr.out] <;> go_num, by rw [hr.out]; exact ON.nil _ _⟩, B3⟩
            | true =>
              by_cases h300 : out.length < 300
              · have hr : Hid (rsGo [] 0 L = rsGo (out ++ [ts x.data.toList]) (k + 1) (L.drop (k + 1))) := by unfold Hid; rw [hsc2.out, hdr.out, rsGo, if_neg (by rw [hq.out]; simp), if_pos ⟨hok, h300⟩]
                have e3 : ((out.length : Int) == 300) = false := by simp; omega
                simp only [hok] at C
                go_upto_region 8 with fail
                go_wp2_with fail
                refine (C _).mono ?_
                rintro e w2 ⟨⟨a2, c2, he2, hin⟩, b2⟩
                obtain ⟨y, hy⟩ : ∃ y, y = ts x.data.toList := ⟨_, rfl⟩
                rw [← hy] at he2 hin
                subst he2
                have HY := Lib.hid hy
                clear hy
                have B2 : Below w.heap.size w w2 := below_via b2 (by (repeat (first | (with_reducible exact Below.refl _ _) | (with_reducible assumption) | (with_reducible refine Below.setCell ?_ ?side _; case side => first | (with_reducible exact Nat.le_refl _) | (simp; done) | (simp only [World.size_alloc, World.size_setCell, World.size_drew, World.heap_drewN] at *; omega)) | (with_reducible refine below_alloc ?_ _) | (with_reducible refine Below.drew ?_) | (with_reducible refine below_drewN ?_) | (with_reducible refine below_via (by assumption) ?_))) : Below w.heap.size w _)
                have hon2 := hon.keep b2
                have F3 := F2.keep b2
                have hfr : ∀ j ∈ (Value.slice a2 y.keep.length c2).ownBlock.toList, j ∉ blks (.slice va out.length vc :: us) := fun j hj hb => by
                  have h1 := (own_lt hin j hj).1
                  have h2 := (hon.lt j hb).2
                  omega
                have hin2 := OwnF.le (OwnI.inr.1 hin) (B' := w.heap.size) hB.size
                have hkp : ∀ z ∈ y.keep, I64 z := fun z hz => by
                  rw [HY.out] at hz
                  have := (ts_keep2 x.data.toList (by rw [sz_len]; exact hbd2)).2 z hz
                  unfold I64
                  omega
                have HFR := Lib.hid hfr
                have HKP := Lib.hid hkp
                clear hfr hkp hin
                have hQ0 : Bx (w2.alloc (.cells #[.int .i64 0, .int .i64 0, .int .i64 0, .int .i64 0, .int .i64 0, .int .i64 0, .int .i64 0, .bool false, .slice none 0 0, .int .i64 0, .int .i64 0, .int .i64 0, .int .i64 0, .int .i64 0] 79)) w2.heap.size [.int .i64 0, .int .i64 0, .int .i64 0, .int .i64 0, .int .i64 0, .int .i64 0, .int .i64 0, .bool false, .slice none 0 0, .int .i64 0, .int .i64 0, .int .i64 0, .int .i64 0, .int .i64 0] := Bx.new _ _ _ [.int .i64 0, .int .i64 0, .int .i64 0, .int .i64 0, .int .i64 0, .int .i64 0, .int .i64 0, .bool false, .slice none 0 0, .int .i64 0, .int .i64 0, .int .i64 0, .int .i64 0, .int .i64 0] rfl (by exact Nat.zero_lt_succ _) _ rfl
                go_upto_region 9 with ((show Go.wpList _ _ _ ((Go.Oper.mk _ (Go.Op.store 79 _ _) _ _ _ _) :: _) _ _); refine wpList_store_row infStp rfl _ _ rfl w2.heap.size 0 [.int .i64 y.kind, .int .i64 y.ev.kind, .int .i64 y.ev.key, .int .i64 y.ev.ch, .int .i64 y.ev.to, .int .i64 y.ev.amt, .int .i64 y.ev.fee, .bool y.ev.yes, .slice a2 y.keep.length c2, .int .i64 y.lo, .int .i64 y.hi, .int .i64 y.step, .int .i64 y.mn, .int .i64 y.mx] rfl rfl (hQ0.there 0 14 (by exact Nat.le_of_ble_eq_true rfl)) rfl (St.one y a2 c2) ?_)
                have D3 : Below w2.heap.size w2 ((w2.alloc (.cells #[.int .i64 0, .int .i64 0, .int .i64 0, .int .i64 0, .int .i64 0, .int .i64 0, .int .i64 0, .bool false, .slice none 0 0, .int .i64 0, .int .i64 0, .int .i64 0, .int .i64 0, .int .i64 0] 79)).setCells w2.heap.size 0 [.int .i64 y.kind, .int .i64 y.ev.kind, .int .i64 y.ev.key, .int .i64 y.ev.ch, .int .i64 y.ev.to, .int .i64 y.ev.amt, .int .i64 y.ev.fee, .bool y.ev.yes, .slice a2 y.keep.length c2, .int .i64 y.lo, .int .i64 y.hi, .int .i64 y.step, .int .i64 y.mn, .int .i64 y.mx]) := below_setCells2 (Nat.le_refl _) [.int .i64 y.kind, .int .i64 y.ev.kind, .int .i64 y.ev.key, .int .i64 y.ev.ch, .int .i64 y.ev.to, .int .i64 y.ev.amt, .int .i64 y.ev.fee, .bool y.ev.yes, .slice a2 y.keep.length c2, .int .i64 y.lo, .int .i64 y.hi, .int .i64 y.step, .int .i64 y.mn, .int .i64 y.mx] _ _ (below_alloc (Below.refl _ _) _)
                have hQ : Bx ((w2.alloc (.cells #[.int .i64 0, .int .i64 0, .int .i64 0, .int .i64 0, .int .i64 0, .int .i64 0, .int .i64 0, .bool false, .slice none 0 0, .int .i64 0, .int .i64 0, .int .i64 0, .int .i64 0, .int .i64 0] 79)).setCells w2.heap.size 0 [.int .i64 y.kind, .int .i64 y.ev.kind, .int .i64 y.ev.key, .int .i64 y.ev.ch, .int .i64 y.ev.to, .int .i64 y.ev.amt, .int .i64 y.ev.fee, .bool y.ev.yes, .slice a2 y.keep.length c2, .int .i64 y.lo, .int .i64 y.hi, .int .i64 y.step, .int .i64 y.mn, .int .i64 y.mx]) w2.heap.size [.int .i64 y.kind, .int .i64 y.ev.kind, .int .i64 y.ev.key, .int .i64 y.ev.ch, .int .i64 y.ev.to, .int .i64 y.ev.amt, .int .i64 y.ev.fee, .bool y.ev.yes, .slice a2 y.keep.length c2, .int .i64 y.lo, .int .i64 y.hi, .int .i64 y.step, .int .i64 y.mn, .int .i64 y.mx] := hQ0.set0 rfl
                generalize (w2.alloc (.cells #[.int .i64 0, .int .i64 0, .int .i64 0, .int .i64 0, .int .i64 0, .int .i64 0, .int .i64 0, .bool false, .slice none 0 0, .int .i64 0, .int .i64 0, .int .i64 0, .int .i64 0, .int .i64 0] 79)).setCells w2.heap.size 0 [.int .i64 y.kind, .int .i64 y.ev.kind, .int .i64 y.ev.key, .int .i64 y.ev.ch, .int .i64 y.ev.to, .int .i64 y.ev.amt, .int .i64 y.ev.fee, .bool y.ev.yes, .slice a2 y.keep.length c2, .int .i64 y.lo, .int .i64 y.hi, .int .i64 y.step, .int .i64 y.mn, .int .i64 y.mx] = X at D3 hQ ⊢
                have B3 : Below w.heap.size w X := below_via D3 B2
                have hon3 := hon2.keep D3
                have hin3 := OwnF.keep hin2 D3
                have F4 := F3.keep D3
                have hzX : w.heap.size ≤ X.heap.size := B3.size
                clear hQ0 hon2 hin2 F3 D3
                go_wp2_with (first | ((show Go.wpList _ _ _ ((Go.Oper.mk _ (Go.Op.load 79 _) _ _ _ _) :: _) _ _); refine wpList_load_row unStp infStp rfl _ rfl _ _ rfl [.int .i64 y.kind, .int .i64 y.ev.kind, .int .i64 y.ev.key, .int .i64 y.ev.ch, .int .i64 y.ev.to, .int .i64 y.ev.amt, .int .i64 y.ev.fee, .bool y.ev.yes, .slice a2 y.keep.length c2, .int .i64 y.lo, .int .i64 y.hi, .int .i64 y.step, .int .i64 y.mn, .int .i64 y.mx] hQ.at_ rfl ?_) | (at_builtin; refine wpList_append_on (K := StepK) infoStep Tryz.underlying66 rfl (by decide) (by decide) StepK_one rfl _ _ rfl w.heap.size _ _ _ rfl (hon3.keep (by (repeat (first | (with_reducible exact Below.refl _ _) | (with_reducible assumption) | (with_reducible refine Below.setCell ?_ ?side _; case side => first | (with_reducible exact Nat.le_refl _) | (simp; done) | (simp only [World.size_alloc, World.size_setCell, World.size_drew, World.heap_drewN] at *; omega)) | (with_reducible refine below_alloc ?_ _) | (with_reducible refine Below.drew ?_) | (with_reducible refine below_drewN ?_) | (with_reducible refine below_via (by assumption) ?_))))) _ y (.slice a2 y.keep.length c2) rfl rfl (new_cells _ _ _ rfl) (by omega) (Nat.le_trans hzX (size_alloc_le _ _)) (by decide) (OwnF.keep hin3 (by (repeat (first | (with_reducible exact Below.refl _ _) | (with_reducible assumption) | (with_reducible refine Below.setCell ?_ ?side _; case side => first | (with_reducible exact Nat.le_refl _) | (simp; done) | (simp only [World.size_alloc, World.size_setCell, World.size_drew, World.heap_drewN] at *; omega)) | (with_reducible refine below_alloc ?_ _) | (with_reducible refine Below.drew ?_) | (with_reducible refine below_drewN ?_) | (with_reducible refine below_via (by assumption) ?_))))) trivial HKP.out HFR.out ?_))
                intro v4 w4 hon4 hb4 hg4
                have F5 := (F4.keep (below_alloc (Below.refl _ _) _)).grown (hon3.keep (below_alloc (Below.refl _ _) _)) hg4
                have B5 : Below w.heap.size w w4 := (below_alloc B3 _).trans hb4
                clear hon3 hin3 hg4 hb4 F4
                go_wp2
                go_roundw
                case rel => exact ⟨k + 1, out ++ [y], us ++ [.slice a2 y.keep.length c2], by omega, by go_num, by rw [List.length_append, List.length_singleton]; omega, hon4, F5, by rw [HY.out]; exact hr, B5⟩
                case measure => simp only [intOf]; omega
              · have hr : Hid (script s.data.toList = ([], (k : Int) + 1)) := by unfold Hid; rw [hsc.out, hsc2.out, hdr.out, rsGo, if_neg (by rw [hq.out]; simp), if_neg (by omega)]
                have e3 : ((out.length : Int) == 300) = true := by simp; omega
                simp only [hok] at C
                go_upto_region 8 with fail
                go_wp2_with fail
                refine (C _).mono ?_
                rintro e w2 ⟨⟨a2, c2, he2, hin⟩, b2⟩
                obtain ⟨y, hy⟩ : ∃ y, y = ts x.data.toList := ⟨_, rfl⟩
                rw [← hy] at he2 hin
                subst he2
                have HY := Lib.hid hy
                clear hy
                have B2 : Below w.heap.size w w2 := below_via b2 (by (repeat (first | (with_reducible exact Below.refl _ _) | (with_reducible assumption) | (with_reducible refine Below.setCell ?_ ?side _; case side => first | (with_reducible exact Nat.le_refl _) | (simp; done) | (simp only [World.size_alloc, World.size_setCell, World.size_drew, World.heap_drewN] at *; omega)) | (with_reducible refine below_alloc ?_ _) | (with_reducible refine Below.drew ?_) | (with_reducible refine below_drewN ?_) | (with_reducible refine below_via (by assumption) ?_))) : Below w.heap.size w _)
                have hQ0 : Bx (w2.alloc (.cells #[.int .i64 0, .int .i64 0, .int .i64 0, .int .i64 0, .int .i64 0, .int .i64 0, .int .i64 0, .bool false, .slice none 0 0, .int .i64 0, .int .i64 0, .int .i64 0, .int .i64 0, .int .i64 0] 79)) w2.heap.size [.int .i64 0, .int .i64 0, .int .i64 0, .int .i64 0, .int .i64 0, .int .i64 0, .int .i64 0, .bool false, .slice none 0 0, .int .i64 0, .int .i64 0, .int .i64 0, .int .i64 0, .int .i64 0] := Bx.new _ _ _ [.int .i64 0, .int .i64 0, .int .i64 0, .int .i64 0, .int .i64 0, .int .i64 0, .int .i64 0, .bool false, .slice none 0 0, .int .i64 0, .int .i64 0, .int .i64 0, .int .i64 0, .int .i64 0] rfl (by exact Nat.zero_lt_succ _) _ rfl
                clear hin
                go_upto_region 9 with ((show Go.wpList _ _ _ ((Go.Oper.mk _ (Go.Op.store 79 _ _) _ _ _ _) :: _) _ _); refine wpList_store_row infStp rfl _ _ rfl w2.heap.size 0 [.int .i64 y.kind, .int .i64 y.ev.kind, .int .i64 y.ev.key, .int .i64 y.ev.ch, .int .i64 y.ev.to, .int .i64 y.ev.amt, .int .i64 y.ev.fee, .bool y.ev.yes, .slice a2 y.keep.length c2, .int .i64 y.lo, .int .i64 y.hi, .int .i64 y.step, .int .i64 y.mn, .int .i64 y.mx] rfl rfl (hQ0.there 0 14 (by exact Nat.le_of_ble_eq_true rfl)) rfl (St.one y a2 c2) ?_)
                have B3 : Below w.heap.size w ((w2.alloc (.cells #[.int .i64 0, .int .i64 0, .int .i64 0, .int .i64 0, .int .i64 0, .int .i64 0, .int .i64 0, .bool false, .slice none 0 0, .int .i64 0, .int .i64 0, .int .i64 0, .int .i64 0, .int .i64 0] 79)).setCells w2.heap.size 0 [.int .i64 y.kind, .int .i64 y.ev.kind, .int .i64 y.ev.key, .int .i64 y.ev.ch, .int .i64 y.ev.to, .int .i64 y.ev.amt, .int .i64 y.ev.fee, .bool y.ev.yes, .slice a2 y.keep.length c2, .int .i64 y.lo, .int .i64 y.hi, .int .i64 y.step, .int .i64 y.mn, .int .i64 y.mx]) := below_setCells2 B2.size [.int .i64 y.kind, .int .i64 y.ev.kind, .int .i64 y.ev.key, .int .i64 y.ev.ch, .int .i64 y.ev.to, .int .i64 y.ev.amt, .int .i64 y.ev.fee, .bool y.ev.yes, .slice a2 y.keep.length c2, .int .i64 y.lo, .int .i64 y.hi, .int .i64 y.step, .int .i64 y.mn, .int .i64 y.mx] _ _ (below_alloc B2 _)
                generalize (w2.alloc (.cells #[.int .i64 0, .int .i64 0, .int .i64 0, .int .i64 0, .int .i64 0, .int .i64 0, .int .i64 0, .bool false, .slice none 0 0, .int .i64 0, .int .i64 0, .int .i64 0, .int .i64 0, .int .i64 0] 79)).setCells w2.heap.size 0 [.int .i64 y.kind, .int .i64 y.ev.kind, .int .i64 y.ev.key, .int .i64 y.ev.ch, .int .i64 y.ev.to, .int .i64 y.ev.amt, .int .i64 y.ev.fee, .bool y.ev.yes, .slice a2 y.keep.length c2, .int .i64 y.lo, .int .i64 y.hi, .int .i64 y.step, .int .i64 y.mn, .int .i64 y.mx] = X at B3 ⊢
                go_wp2
                refine bodyPost_ret (by simp only [results, Tryz.results11]; go_simp; rfl) rfl ?_
                exact ⟨⟨_, [], by rw [hr.out] <;> go_num, by rw [hr.out]; exact ON.nil _ _⟩, B3⟩
      · have hr : Hid (script s.data.toList = (out, 0)) := by
          unfold Hid
          rw [hsc.out, hsc2.out, List.drop_eq_nil_of_le (by have := HN.out; omega)]
          rfl
        go_wp2
        refine bodyPost_ret (by simp only [results, Tryz.results11]; go_simp; rfl) rfl ?_
        exact ⟨⟨_, us, by rw [hr.out], by rw [hr.out]; exact hon⟩, hB⟩

end Go.Proofs.YtafbdbefmlgioaaGreatDoor
