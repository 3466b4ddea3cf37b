/- The best route, walked: the program. -/
import Derived.Test.YtegnlijgjcfmlaaDoorWBest2
import Derived.Test.YtegnlijgjcfmlaaDoorHold
import Derived.Deep.RegionWith
import Derived.Deep.DeepCutAuto
namespace Go.Proofs.YtegnlijgjcfmlaaDoor
open Go.RowKit
set_option linter.unusedVariables false
set_option linter.unusedSimpArgs false

def feeOf (l : List Rd) (n : Int) (best : List Int) : Int := if best = [] then 0 else rFee l best n
/-- the finder in block g -/
structure Fin (l : List Rd) (n dst hops : Int) (a : Option Addr) (len cap B0 g : Nat) (best : List Int) (w : World) : Prop where
  lt : g < w.heap.size
  c0 : w.cell? ⟨g, 0, none⟩ = some (.slice a len cap)
  c1 : w.cell? ⟨g, 1, none⟩ = some (.int .i64 dst)
  c2 : w.cell? ⟨g, 2, none⟩ = some (.int .i64 n)
  c3 : w.cell? ⟨g, 3, none⟩ = some (.int .i64 hops)
  c4 : ∃ ab cb, w.cell? ⟨g, 4, none⟩ = some (.slice ab best.length cb) ∧ OI w B0 ab best.length cb best ∧ ∀ p, ab = some p → p.block ≠ g
  c5 : w.cell? ⟨g, 5, none⟩ = some (.int .i64 (feeOf l n best))
  c6 : w.cell? ⟨g, 6, none⟩ = some (.bool (!best.isEmpty))
  fz : ∀ o, w.frozen? ⟨g, o, none⟩ = false
section
variable {l : List Rd} {n dst hops : Int} {a : Option Addr} {len cap B0 g : Nat} {best : List Int} {w w' : World}
theorem Fin.keep (F : Fin l n dst hops a len cap B0 g best w) (hb : Below w.heap.size w w') : Fin l n dst hops a len cap B0 g best w' := by
  obtain ⟨hlt, c0, c1, c2, c3, ⟨ab, cb, c4, ob, hab⟩, c5, c6, fz⟩ := F
  exact ⟨Nat.lt_of_lt_of_le hlt hb.size, cell_keep hb c0, cell_keep hb c1, cell_keep hb c2, cell_keep hb c3, ⟨ab, cb, cell_keep hb c4, ob.keep hb, hab⟩, cell_keep hb c5, cell_keep hb c6, fun o => (frozen_keep hb hlt).trans (fz o)⟩
/-- a better route is laid into the finder -/
theorem Fin.store (F : Fin l n dst hops a len cap B0 g best w) {next : List Int} {ab : Option Addr} {cb l1 : Nat} (hl : next.length = l1) (hN : OI w B0 ab l1 cb next) (hne : ∀ p, ab = some p → p.block ≠ g) (hnn : next ≠ []) {F1 : Int} (hF : rFee l next n = F1) :
    Fin l n dst hops a len cap B0 g next (((w.setCell ⟨g, 4, none⟩ (.slice ab l1 cb)).setCell ⟨g, 5, none⟩ (.int .i64 F1)).setCell ⟨g, 6, none⟩ (.bool true)) := by
  subst hl
  subst hF
  obtain ⟨hlt, c0, c1, c2, c3, ⟨ab', cb', c4, ob, hab⟩, c5, c6, fz⟩ := F
  have hg := grown_trans (grown_trans (grown_setCell w g 4 (.slice ab next.length cb)) (grown_setCell _ g 5 (.int .i64 (rFee l next n)))) (grown_setCell _ g 6 (.bool true))
  refine ⟨Nat.lt_of_lt_of_le hlt hg.size, ?_, ?_, ?_, ?_, ⟨ab, cb, ?_, hN.keepG hg hne, hne⟩, ?_, ?_, fun o => ?_⟩
  · exact set_ne (set_ne (set_ne c0 (by omega)) (by omega)) (by omega)
  · exact set_ne (set_ne (set_ne c1 (by omega)) (by omega)) (by omega)
  · exact set_ne (set_ne (set_ne c2 (by omega)) (by omega)) (by omega)
  · exact set_ne (set_ne (set_ne c3 (by omega)) (by omega)) (by omega)
  · exact set_ne (set_ne (set_eq c4) (by omega)) (by omega)
  · have e : feeOf l n next = rFee l next n := if_neg hnn
    rw [e]
    exact set_ne (set_eq (set_ne c5 (by omega))) (by omega)
  · have e : (!next.isEmpty) = true := by cases next with | nil => exact absurd rfl hnn | cons x t => rfl
    rw [e]
    exact set_eq (set_ne (set_ne c6 (by omega)) (by omega))
  · rw [World.frozen?_setCell, World.frozen?_setCell, World.frozen?_setCell]; exact fz o
end

set_option maxRecDepth 100000 in
set_option maxHeartbeats 8000000 in
theorem offer_impl (l : List Rd) (n dst hops : Int) (a : Option Addr) (len cap B0 g : Nat) (best next : List Int) (a1 : Option Addr) (l1 k1 : Nat) (w : World) (R0 : RdS w w.heap.size a len l) (F0 : Fin l n dst hops a len cap B0 g best w)
    (S1 : IS w w.heap.size a1 l1 next) (hn1 : a1 = none → k1 = 0) (hne : ∀ p, a1 = some p → p.block ≠ g) (h8 : l1 ≤ 8) (hB0 : B0 ≤ g) :
    Calls Tryd.prog 80 #[.pointer (some ⟨g, 0, none⟩), .slice a1 l1 k1] w fun e w' => e = .returned (.tuple #[]) ∧ Fin l n dst hops a len cap B0 g (offerR l n best next) w' ∧ w.grownBy w' (some g) := by
  have FF := F0
  obtain ⟨hlt, c0, c1, c2, c3, ⟨ab, cb, c4, ob, hab⟩, c5, c6, fz⟩ := F0
  have Hx := Lib.hid S1.1
  have Hbl := Lib.hid ob.2.1
  have Hn1 := Lib.hid hn1
  have Hne := Lib.hid hne
  have Hab := Lib.hid hab
  have hfb := rFee_bd l next n
  have hbl := ob.is.len
  clear hn1 hne hab
  go_enter Tryd.func80, Tryd.ntmps80
  go_upto_region 0 with fail
  go_cut [4, 5] (fun s4 s5 wx => ∃ (a2 : Option Addr) (k2 : Nat), s4 = .slice a2 (rAmts l next n).length k2 ∧ s5 = .bool (rOk l next n) ∧ OI wx w.heap.size a2 (rAmts l next n).length k2 (rAmts l next n) ∧ Below w.heap.size w wx)
  case first =>
    go_region_with ((go_at_call 84; refine (routeAmts_impl _ _ _ _ _ _ _ l next _ (FS.keep R0 (by (repeat (first | (with_reducible exact Below.refl _ _) | (with_reducible assumption) | (with_reducible refine Below.setCell ?_ ?side _; case side => first | (with_reducible exact Nat.le_refl _) | (simp; done) | (simp only [World.size_alloc, World.size_setCell, World.size_drew, World.heap_drewN] at *; omega)) | (with_reducible refine below_alloc ?_ _) | (with_reducible refine Below.drew ?_) | (with_reducible refine below_drewN ?_) | (with_reducible refine below_via (by assumption) ?_))))) (S1.keep (by (repeat (first | (with_reducible exact Below.refl _ _) | (with_reducible assumption) | (with_reducible refine Below.setCell ?_ ?side _; case side => first | (with_reducible exact Nat.le_refl _) | (simp; done) | (simp only [World.size_alloc, World.size_setCell, World.size_drew, World.heap_drewN] at *; omega)) | (with_reducible refine below_alloc ?_ _) | (with_reducible refine Below.drew ?_) | (with_reducible refine below_drewN ?_) | (with_reducible refine below_via (by assumption) ?_)))))).mono ?_; rintro e w1 ⟨⟨a2, k2, rfl, o2⟩, b2⟩))
    all_goals (go_wp2_with fail; go_meet; exact ⟨a2, k2, rfl, rfl, o2, below_via b2 (by (repeat (first | (with_reducible exact Below.refl _ _) | (with_reducible assumption) | (with_reducible refine Below.setCell ?_ ?side _; case side => first | (with_reducible exact Nat.le_refl _) | (simp; done) | (simp only [World.size_alloc, World.size_setCell, World.size_drew, World.heap_drewN] at *; omega)) | (with_reducible refine below_alloc ?_ _) | (with_reducible refine Below.drew ?_) | (with_reducible refine below_drewN ?_) | (with_reducible refine below_via (by assumption) ?_))))⟩)
  case rest =>
    obtain ⟨a2, k2, rfl, rfl, o2, b2⟩ := hcut
    have hz2 := b2.size
    have F2 := FF.keep b2
    obtain ⟨g0, d0, d1, d2, d3, ⟨ab', cb', d4, ob2, hab2⟩, d5, d6, fz2⟩ := F2
    have d0' := cell_keep b2 c0
    have hnot : w.heap.size ≤ wc.heap.size := hz2
    cases hok : rOk l next n with
    | false =>
      have Ho := Lib.hid (offer_no (best := best) hok)
      clear hok
      go_wp2
      first | (refine bodyPost_ret (results_none rfl _ _ _) rfl ?_) | go_end0
      exact ⟨rfl, by rw [Ho.out]; exact FF.keep b2, grown_of_below g b2⟩
    | true =>
      obtain ⟨x, L, hL, hF, hx, hnb⟩ := rFee_t hok
      have Hok := Lib.hid hok
      have Hab2 := Lib.hid hab2
      have Hbl2 := Lib.hid ob2.2.1
      have hlenL : 1 ≤ (rAmts l next n).length := by rw [hL]; simp
      obtain ⟨bx, ox, x', e1, hbx, hcx, hbdx, hx', _⟩ := o2.is.at_ (k := 0) (by omega)
      subst e1
      have hx2 := hx'.out
      rw [hL] at hx2
      obtain rfl : x = x' := by simpa using hx2
      simp only [Nat.add_zero] at hcx
      have HL := Lib.hid hL
      have HF := Lib.hid hF
      have hnn : next ≠ [] := by
        intro h
        rw [h] at hok
        have : rOk l [] n = false := rfl
        rw [this] at hok; cases hok
      have Hnn := Lib.hid hnn
      clear hok hL hF hx' hx2 hab2 hnn
      by_cases hbe : best = []
      · have t1 : best.isEmpty = true := by rw [hbe]; rfl
        have Ho : Hid (offerR l n best next = next) := by unfold Hid; rw [hbe]; exact offer_new Hok.out
        clear hbe
        go_wp2
        go_quiet (fail)
        have R1 := IS.drewN (S1.keep b2) nq
        have R2 := IS.drewN ob2.is nq
        have F3 : Fin l n dst hops a len cap B0 g best (wc.drewN nq) := (FF.keep b2).keep (below_drewN (Below.refl _ _))
        have b3 : Below w.heap.size w (wc.drewN nq) := below_drewN b2
        go_wp2_with (first | (go_at_call 103; refine (less_impl _ _ _ _ _ _ next best _ R1 R2).mono ?_; rintro e w5 ⟨he, b5⟩; rw [hls] at he; subst he) | ((go_at_call 79; first | (refine (copyInts_impl _ _ _ next _ R1 Hn1.out (by omega)).mono ?_; rintro e w6 ⟨⟨a6, k6, rfl, o6⟩, b6⟩; have b7 : Below w.heap.size w w6 := b3.trans (b6.mono b3.size); have F7 := F3.keep b6; have F8 := F7; have hn6 : ∀ p, a6 = some p → p.block ≠ g := (fun p hp => by have := OI.ge o6 p hp; have := (F3).lt; omega); have o7 := o6.le (Nat.le_trans hB0 (Nat.le_of_lt (F3).lt))) | (refine (copyInts_impl _ _ _ next _ (R1.keep b5) Hn1.out (by omega)).mono ?_; rintro e w6 ⟨⟨a6, k6, rfl, o6⟩, b6⟩; have b7 : Below w.heap.size w w6 := (b3.trans (b5.mono b3.size)).trans (b6.mono (Nat.le_trans b3.size b5.size)); have F7 := (F3.keep b5).keep b6; have F8 := F7; have hn6 : ∀ p, a6 = some p → p.block ≠ g := (fun p hp => by have := OI.ge o6 p hp; have := ((F3.keep b5)).lt; omega); have o7 := o6.le (Nat.le_trans hB0 (Nat.le_of_lt ((F3.keep b5)).lt)))); obtain ⟨q0, q1, q2, q3, q4, ⟨ab7, cb7, q5, ob7, hab7⟩, q6, q7, fz7⟩ := F7; have Hab7 := Lib.hid hab7; have Hn6 := Lib.hid hn6; clear hab7 hn6))
        first | (refine bodyPost_ret (results_none rfl _ _ _) rfl ?_) | go_end0
        exact ⟨rfl, by rw [Ho.out]; exact Fin.store F8 Hx.out o7 Hn6.out Hnn.out HF.out, grown_trans (grown_of_below g b7) (grown_trans (grown_trans (grown_setCell _ g 4 _) (grown_setCell _ g 5 _)) (grown_setCell _ g 6 _))⟩
      · have t1 : best.isEmpty = false := by cases best with | nil => exact absurd rfl hbe | cons x t => rfl
        have hfo : feeOf l n best = rFee l best n := if_neg hbe
        have hfb2 := rFee_bd l best n
        rw [hfo] at d5
        obtain ⟨G, hG⟩ : ∃ G, G = rFee l best n := ⟨_, rfl⟩
        rw [← hG] at d5 hfb2
        have HG := Lib.hid hG
        have Hbe := Lib.hid hbe
        have hbet : ∀ v, betterB l n next best = v → offerR l n best next = if v = true then next else best := by
          intro v hv
          cases v with
          | true => exact offer_yes Hok.out hv
          | false => exact offer_keep Hbe.out hv
        have Hbet := Lib.hid hbet
        have hbb : betterB l n next best = if x - n ≠ G then decide (x - n < G) else if next.length ≠ best.length then decide (next.length < best.length) else lessI next best := by unfold betterB; rw [HF.out, HG.out]
        have Hbb := Lib.hid hbb
        clear hfo hG hbe hbet hbb
        by_cases hlt1 : x - n < G
        · have Ho : Hid (offerR l n best next = next) := by unfold Hid; rw [Hbet.out true (by rw [Hbb.out, if_pos (by omega)]; exact decide_eq_true hlt1)]; rfl
          go_wp2
          go_quiet (fail)
          have R1 := IS.drewN (S1.keep b2) nq
          have R2 := IS.drewN ob2.is nq
          have F3 : Fin l n dst hops a len cap B0 g best (wc.drewN nq) := (FF.keep b2).keep (below_drewN (Below.refl _ _))
          have b3 : Below w.heap.size w (wc.drewN nq) := below_drewN b2
          go_wp2_with (first | (go_at_call 103; refine (less_impl _ _ _ _ _ _ next best _ R1 R2).mono ?_; rintro e w5 ⟨he, b5⟩; rw [hls] at he; subst he) | ((go_at_call 79; first | (refine (copyInts_impl _ _ _ next _ R1 Hn1.out (by omega)).mono ?_; rintro e w6 ⟨⟨a6, k6, rfl, o6⟩, b6⟩; have b7 : Below w.heap.size w w6 := b3.trans (b6.mono b3.size); have F7 := F3.keep b6; have F8 := F7; have hn6 : ∀ p, a6 = some p → p.block ≠ g := (fun p hp => by have := OI.ge o6 p hp; have := (F3).lt; omega); have o7 := o6.le (Nat.le_trans hB0 (Nat.le_of_lt (F3).lt))) | (refine (copyInts_impl _ _ _ next _ (R1.keep b5) Hn1.out (by omega)).mono ?_; rintro e w6 ⟨⟨a6, k6, rfl, o6⟩, b6⟩; have b7 : Below w.heap.size w w6 := (b3.trans (b5.mono b3.size)).trans (b6.mono (Nat.le_trans b3.size b5.size)); have F7 := (F3.keep b5).keep b6; have F8 := F7; have hn6 : ∀ p, a6 = some p → p.block ≠ g := (fun p hp => by have := OI.ge o6 p hp; have := ((F3.keep b5)).lt; omega); have o7 := o6.le (Nat.le_trans hB0 (Nat.le_of_lt ((F3.keep b5)).lt)))); obtain ⟨q0, q1, q2, q3, q4, ⟨ab7, cb7, q5, ob7, hab7⟩, q6, q7, fz7⟩ := F7; have Hab7 := Lib.hid hab7; have Hn6 := Lib.hid hn6; clear hab7 hn6))
          first | (refine bodyPost_ret (results_none rfl _ _ _) rfl ?_) | go_end0
          exact ⟨rfl, by rw [Ho.out]; exact Fin.store F8 Hx.out o7 Hn6.out Hnn.out HF.out, grown_trans (grown_of_below g b7) (grown_trans (grown_trans (grown_setCell _ g 4 _) (grown_setCell _ g 5 _)) (grown_setCell _ g 6 _))⟩
        · by_cases heq : x - n = G
          · have t2 : (x - n == G) = true := by simp [heq]
            have Hbb2 : Hid (betterB l n next best = if next.length ≠ best.length then decide (next.length < best.length) else lessI next best) := by unfold Hid; rw [Hbb.out, if_neg (by simp [heq])]
            clear heq
            by_cases hl1 : l1 < best.length
            · have Ho : Hid (offerR l n best next = next) := by unfold Hid; rw [Hbet.out true (by rw [Hbb2.out, Hx.out, if_pos (by omega)]; exact decide_eq_true hl1)]; rfl
              go_wp2
              go_quiet (fail)
              have R1 := IS.drewN (S1.keep b2) nq
              have R2 := IS.drewN ob2.is nq
              have F3 : Fin l n dst hops a len cap B0 g best (wc.drewN nq) := (FF.keep b2).keep (below_drewN (Below.refl _ _))
              have b3 : Below w.heap.size w (wc.drewN nq) := below_drewN b2
              go_wp2_with (first | (go_at_call 103; refine (less_impl _ _ _ _ _ _ next best _ R1 R2).mono ?_; rintro e w5 ⟨he, b5⟩; rw [hls] at he; subst he) | ((go_at_call 79; first | (refine (copyInts_impl _ _ _ next _ R1 Hn1.out (by omega)).mono ?_; rintro e w6 ⟨⟨a6, k6, rfl, o6⟩, b6⟩; have b7 : Below w.heap.size w w6 := b3.trans (b6.mono b3.size); have F7 := F3.keep b6; have F8 := F7; have hn6 : ∀ p, a6 = some p → p.block ≠ g := (fun p hp => by have := OI.ge o6 p hp; have := (F3).lt; omega); have o7 := o6.le (Nat.le_trans hB0 (Nat.le_of_lt (F3).lt))) | (refine (copyInts_impl _ _ _ next _ (R1.keep b5) Hn1.out (by omega)).mono ?_; rintro e w6 ⟨⟨a6, k6, rfl, o6⟩, b6⟩; have b7 : Below w.heap.size w w6 := (b3.trans (b5.mono b3.size)).trans (b6.mono (Nat.le_trans b3.size b5.size)); have F7 := (F3.keep b5).keep b6; have F8 := F7; have hn6 : ∀ p, a6 = some p → p.block ≠ g := (fun p hp => by have := OI.ge o6 p hp; have := ((F3.keep b5)).lt; omega); have o7 := o6.le (Nat.le_trans hB0 (Nat.le_of_lt ((F3.keep b5)).lt)))); obtain ⟨q0, q1, q2, q3, q4, ⟨ab7, cb7, q5, ob7, hab7⟩, q6, q7, fz7⟩ := F7; have Hab7 := Lib.hid hab7; have Hn6 := Lib.hid hn6; clear hab7 hn6))
              first | (refine bodyPost_ret (results_none rfl _ _ _) rfl ?_) | go_end0
              exact ⟨rfl, by rw [Ho.out]; exact Fin.store F8 Hx.out o7 Hn6.out Hnn.out HF.out, grown_trans (grown_of_below g b7) (grown_trans (grown_trans (grown_setCell _ g 4 _) (grown_setCell _ g 5 _)) (grown_setCell _ g 6 _))⟩
            · by_cases hl2 : l1 = best.length
              · have t3 : ((l1 : Int) == (best.length : Int)) = true := by simp [hl2]
                have Hbb3 : Hid (betterB l n next best = lessI next best) := by unfold Hid; rw [Hbb2.out, Hx.out, if_neg (by simp [hl2])]
                clear hl2
                cases hls : lessI next best with
                | true =>
                  have Ho : Hid (offerR l n best next = next) := by unfold Hid; rw [Hbet.out true (by rw [Hbb3.out, hls])]; rfl
                  go_wp2
                  go_quiet (fail)
                  have R1 := IS.drewN (S1.keep b2) nq
                  have R2 := IS.drewN ob2.is nq
                  have F3 : Fin l n dst hops a len cap B0 g best (wc.drewN nq) := (FF.keep b2).keep (below_drewN (Below.refl _ _))
                  have b3 : Below w.heap.size w (wc.drewN nq) := below_drewN b2
                  go_wp2_with (first | (go_at_call 103; refine (less_impl _ _ _ _ _ _ next best _ R1 R2).mono ?_; rintro e w5 ⟨he, b5⟩; rw [hls] at he; subst he) | ((go_at_call 79; first | (refine (copyInts_impl _ _ _ next _ R1 Hn1.out (by omega)).mono ?_; rintro e w6 ⟨⟨a6, k6, rfl, o6⟩, b6⟩; have b7 : Below w.heap.size w w6 := b3.trans (b6.mono b3.size); have F7 := F3.keep b6; have F8 := F7; have hn6 : ∀ p, a6 = some p → p.block ≠ g := (fun p hp => by have := OI.ge o6 p hp; have := (F3).lt; omega); have o7 := o6.le (Nat.le_trans hB0 (Nat.le_of_lt (F3).lt))) | (refine (copyInts_impl _ _ _ next _ (R1.keep b5) Hn1.out (by omega)).mono ?_; rintro e w6 ⟨⟨a6, k6, rfl, o6⟩, b6⟩; have b7 : Below w.heap.size w w6 := (b3.trans (b5.mono b3.size)).trans (b6.mono (Nat.le_trans b3.size b5.size)); have F7 := (F3.keep b5).keep b6; have F8 := F7; have hn6 : ∀ p, a6 = some p → p.block ≠ g := (fun p hp => by have := OI.ge o6 p hp; have := ((F3.keep b5)).lt; omega); have o7 := o6.le (Nat.le_trans hB0 (Nat.le_of_lt ((F3.keep b5)).lt)))); obtain ⟨q0, q1, q2, q3, q4, ⟨ab7, cb7, q5, ob7, hab7⟩, q6, q7, fz7⟩ := F7; have Hab7 := Lib.hid hab7; have Hn6 := Lib.hid hn6; clear hab7 hn6))
                  first | (refine bodyPost_ret (results_none rfl _ _ _) rfl ?_) | go_end0
                  exact ⟨rfl, by rw [Ho.out]; exact Fin.store F8 Hx.out o7 Hn6.out Hnn.out HF.out, grown_trans (grown_of_below g b7) (grown_trans (grown_trans (grown_setCell _ g 4 _) (grown_setCell _ g 5 _)) (grown_setCell _ g 6 _))⟩
                | false =>
                  have Ho : Hid (offerR l n best next = best) := by unfold Hid; rw [Hbet.out false (by rw [Hbb3.out, hls])]; rfl
                  go_wp2
                  go_quiet (fail)
                  have R1 := IS.drewN (S1.keep b2) nq
                  have R2 := IS.drewN ob2.is nq
                  have F3 : Fin l n dst hops a len cap B0 g best (wc.drewN nq) := (FF.keep b2).keep (below_drewN (Below.refl _ _))
                  have b3 : Below w.heap.size w (wc.drewN nq) := below_drewN b2
                  go_wp2_with ((go_at_call 103; refine (less_impl _ _ _ _ _ _ next best _ R1 R2).mono ?_; rintro e w5 ⟨he, b5⟩; rw [hls] at he; subst he))
                  first | (refine bodyPost_ret (results_none rfl _ _ _) rfl ?_) | go_end0
                  first | exact ⟨rfl, by rw [Ho.out]; exact F3, grown_of_below g b3⟩ | exact ⟨rfl, by rw [Ho.out]; exact F3.keep b5, grown_of_below g (b3.trans (b5.mono b3.size))⟩
              · have t3 : ((l1 : Int) == (best.length : Int)) = false := by simp; omega
                have Ho : Hid (offerR l n best next = best) := by unfold Hid; rw [Hbet.out false (by rw [Hbb2.out, Hx.out, if_pos hl2]; exact decide_eq_false hl1)]; rfl
                go_wp2
                go_quiet (fail)
                have R1 := IS.drewN (S1.keep b2) nq
                have R2 := IS.drewN ob2.is nq
                have F3 : Fin l n dst hops a len cap B0 g best (wc.drewN nq) := (FF.keep b2).keep (below_drewN (Below.refl _ _))
                have b3 : Below w.heap.size w (wc.drewN nq) := below_drewN b2
                go_wp2_with ((go_at_call 103; refine (less_impl _ _ _ _ _ _ next best _ R1 R2).mono ?_; rintro e w5 ⟨he, b5⟩; rw [hls] at he; subst he))
                first | (refine bodyPost_ret (results_none rfl _ _ _) rfl ?_) | go_end0
                first | exact ⟨rfl, by rw [Ho.out]; exact F3, grown_of_below g b3⟩ | exact ⟨rfl, by rw [Ho.out]; exact F3.keep b5, grown_of_below g (b3.trans (b5.mono b3.size))⟩
          · have t2 : (x - n == G) = false := by simp [heq]
            have Ho : Hid (offerR l n best next = best) := by unfold Hid; rw [Hbet.out false (by rw [Hbb.out, if_pos heq]; exact decide_eq_false hlt1)]; rfl
            clear heq
            go_wp2
            go_quiet (fail)
            have R1 := IS.drewN (S1.keep b2) nq
            have R2 := IS.drewN ob2.is nq
            have F3 : Fin l n dst hops a len cap B0 g best (wc.drewN nq) := (FF.keep b2).keep (below_drewN (Below.refl _ _))
            have b3 : Below w.heap.size w (wc.drewN nq) := below_drewN b2
            go_wp2_with ((go_at_call 103; refine (less_impl _ _ _ _ _ _ next best _ R1 R2).mono ?_; rintro e w5 ⟨he, b5⟩; rw [hls] at he; subst he))
            first | (refine bodyPost_ret (results_none rfl _ _ _) rfl ?_) | go_end0
            first | exact ⟨rfl, by rw [Ho.out]; exact F3, grown_of_below g b3⟩ | exact ⟨rfl, by rw [Ho.out]; exact F3.keep b5, grown_of_below g (b3.trans (b5.mono b3.size))⟩

end Go.Proofs.YtegnlijgjcfmlaaDoor
