/- Slices of Event: the laws' own functions. By a program of the prover. -/
import Derived.Test.YtafbdbefmlgioaaGreatDoorOwn
import Derived.Test.YtafbdbefmlgioaaGreatDoorFlat
namespace Go.Proofs.YtafbdbefmlgioaaGreatDoor
open Go.RowKit
set_option linter.unusedVariables false
set_option linter.unusedSimpArgs false

structure Ev where
  kind : Int
  key : Int
  ch : Int
  to : Int
  amt : Int
  fee : Int
  yes : Bool
def Ev.enc (r : Ev) : List Value := [.int .i64 r.kind, .int .i64 r.key, .int .i64 r.ch, .int .i64 r.to, .int .i64 r.amt, .int .i64 r.fee, .bool r.yes]
def Ev.ok (r : Ev) : Prop := I64 r.kind ∧ I64 r.key ∧ I64 r.ch ∧ I64 r.to ∧ I64 r.amt ∧ I64 r.fee ∧ True
theorem Ev.enc_len (r : Ev) : r.enc.length = 7 := rfl
abbrev EvS := FS Ev.enc 7 Ev.ok

theorem infoEvent : (Tryz.prog.info? 75).map (fun i => (i.zero, i.size, i.bytes)) = some (some (.agg #[.int .i64 0, .int .i64 0, .int .i64 0, .int .i64 0, .int .i64 0, .int .i64 0, .bool false]), 7, 56) := by kernel_rfl
abbrev EvO := OF Ev.enc 7 Ev.ok 75

theorem EvS.cells {w : World} {B : Nat} {a : Option Addr} {len : Nat} {xs : List Ev} (h : EvS w B a len xs) {k : Nat} (hk : k < len) :
    ∃ g off x0 x1 x2 x3 x4 x5 x6, a = some ⟨g, off, none⟩ ∧ g < B ∧ w.cell? ⟨g, off + k * 7, none⟩ = some (.int .i64 x0) ∧ w.cell? ⟨g, off + k * 7 + 1, none⟩ = some (.int .i64 x1) ∧ w.cell? ⟨g, off + k * 7 + 2, none⟩ = some (.int .i64 x2) ∧ w.cell? ⟨g, off + k * 7 + 3, none⟩ = some (.int .i64 x3) ∧ w.cell? ⟨g, off + k * 7 + 4, none⟩ = some (.int .i64 x4) ∧ w.cell? ⟨g, off + k * 7 + 5, none⟩ = some (.int .i64 x5) ∧ w.cell? ⟨g, off + k * 7 + 6, none⟩ = some (.bool x6) ∧
      I64 x0 ∧ I64 x1 ∧ I64 x2 ∧ I64 x3 ∧ I64 x4 ∧ I64 x5 ∧ True ∧ Hid (xs[k]? = some ⟨x0, x1, x2, x3, x4, x5, x6⟩) ∧ Hid (xs.take (k + 1) = xs.take k ++ [⟨x0, x1, x2, x3, x4, x5, x6⟩]) := by
  obtain ⟨g, off, r, e, hb, hc, hok, hx, ht⟩ := h.at_ hk
  obtain ⟨x0, x1, x2, x3, x4, x5, x6⟩ := r
  obtain ⟨o0, o1, o2, o3, o4, o5, o6⟩ := hok
  exact ⟨g, off, x0, x1, x2, x3, x4, x5, x6, e, hb, hc 0 _ rfl, hc 1 _ rfl, hc 2 _ rfl, hc 3 _ rfl, hc 4 _ rfl, hc 5 _ rfl, hc 6 _ rfl, o0, o1, o2, o3, o4, o5, o6, hx, ht⟩

set_option maxHeartbeats 400000 in
theorem szEventS_any (a : Option Addr) (len cap : Nat) (n : Int) (w : World) (hl : len ≤ 9223372036854775807) (h0 : 0 ≤ n) (h1 : n ≤ 1048576) : Calls Tryz.prog 21 #[.slice a len cap, .int .i64 n] w fun e w' =>
    e = .returned (.int .i64 (if n - (len : Int) < 0 then -1 else n - len)) ∧ w = w' := by
  by_cases h : n - (len : Int) < 0
  · rw [if_pos h]
    go_enter Tryz.func21, Tryz.ntmps21
    go_wp2
    go_ret
    exact ⟨rfl, rfl⟩
  · rw [if_neg h]
    go_enter Tryz.func21, Tryz.ntmps21
    go_wp2
    go_ret
    exact ⟨rfl, rfl⟩

/-- what is owned while the first k elements are written: they, and as many cells more as are wanted -/
def EvPart (w : World) (B : Nat) (a : Option Addr) (len cap : Nat) (xs : List Ev) (k : Nat) : Prop :=
  ∃ rest : List Value, w.ownsRow B 75 7 (.slice a len cap) len ((xs.take k).flatMap Ev.enc ++ rest) ∧ rest.length = (len - k) * 7
theorem EvPart.open_ {w : World} {B : Nat} {a : Option Addr} {len cap : Nat} {xs : List Ev} {k : Nat} (h : EvPart w B a len cap xs k) (hx : xs.length = len) (hk : k < len) :
    ∃ g y0 y1 y2 y3 y4 y5 y6 rest, a = some ⟨g, 0, none⟩ ∧ B ≤ g ∧ rest.length = (len - (k + 1)) * 7 ∧ w.ownsRow B 75 7 (.slice (some ⟨g, 0, none⟩) len cap) len ((xs.take k).flatMap Ev.enc ++ [y0, y1, y2, y3, y4, y5, y6] ++ rest) ∧
      w.cell? ⟨g, k * 7, none⟩ = some y0 ∧ w.cell? ⟨g, k * 7 + 1, none⟩ = some y1 ∧ w.cell? ⟨g, k * 7 + 2, none⟩ = some y2 ∧ w.cell? ⟨g, k * 7 + 3, none⟩ = some y3 ∧ w.cell? ⟨g, k * 7 + 4, none⟩ = some y4 ∧ w.cell? ⟨g, k * 7 + 5, none⟩ = some y5 ∧ w.cell? ⟨g, k * 7 + 6, none⟩ = some y6 ∧ ∀ o, w.frozen? ⟨g, o, none⟩ = false := by
  obtain ⟨rest, hown, hr⟩ := h
  obtain ⟨g, rfl, hg⟩ := block_ne w hown (by omega)
  obtain ⟨y0, y1, y2, y3, y4, y5, y6, r', rfl⟩ : ∃ y0 y1 y2 y3 y4 y5 y6 r', rest = y0 :: y1 :: y2 :: y3 :: y4 :: y5 :: y6 :: r' := by
    have : 7 ≤ rest.length := by omega
    match rest, this with
    | y0 :: y1 :: y2 :: y3 :: y4 :: y5 :: y6 :: r', _ => exact ⟨y0, y1, y2, y3, y4, y5, y6, r', rfl⟩
  have hl : ((xs.take k).flatMap Ev.enc).length = k * 7 := by rw [flatMap_len Ev.enc_len]; simp; omega
  have hkk : k * 7 + 7 ≤ len * 7 := by omega
  have get : ∀ j v, [y0, y1, y2, y3, y4, y5, y6][j]? = some v → w.cell? ⟨g, k * 7 + j, none⟩ = some v := by
    intro j v hv
    have hj : j < 7 := (List.getElem?_eq_some_iff.1 hv).1
    rw [hown.cellAt (k * 7 + j) (by omega), List.getElem?_append_right (by omega), hl, show k * 7 + j - k * 7 = j by omega]
    rw [show (y0 :: y1 :: y2 :: y3 :: y4 :: y5 :: y6 :: r') = [y0, y1, y2, y3, y4, y5, y6] ++ r' from rfl, List.getElem?_append_left (by simpa using hj)]
    exact hv
  refine ⟨g, y0, y1, y2, y3, y4, y5, y6, r', rfl, hg, ?_, by simpa using hown, get 0 _ rfl, get 1 _ rfl, get 2 _ rfl, get 3 _ rfl, get 4 _ rfl, get 5 _ rfl, get 6 _ rfl, fun o => hown.frozenAt o⟩
  simp at hr
  omega

set_option maxRecDepth 10000 in
theorem EvPart.put {w : World} {B g len cap : Nat} {xs : List Ev} {k : Nat} {r : Ev} {y0 y1 y2 y3 y4 y5 y6 v0 v1 v2 v3 v4 v5 v6 : Value} {rest : List Value} (hown : w.ownsRow B 75 7 (.slice (some ⟨g, 0, none⟩) len cap) len ((xs.take k).flatMap Ev.enc ++ [y0, y1, y2, y3, y4, y5, y6] ++ rest)) (hr : rest.length = (len - (k + 1)) * 7) (hx : xs.length = len) (hk : k < len)
    (ht : xs.take (k + 1) = xs.take k ++ [r]) (hv : r.enc = [v0, v1, v2, v3, v4, v5, v6]) : EvPart (((((((w.setCell ⟨g, k * 7, none⟩ v0).setCell ⟨g, k * 7 + 1, none⟩ v1).setCell ⟨g, k * 7 + 2, none⟩ v2).setCell ⟨g, k * 7 + 3, none⟩ v3).setCell ⟨g, k * 7 + 4, none⟩ v4).setCell ⟨g, k * 7 + 5, none⟩ v5).setCell ⟨g, k * 7 + 6, none⟩ v6) B (some ⟨g, 0, none⟩) len cap xs (k + 1) := by
  have hl : ((xs.take k).flatMap Ev.enc).length = k * 7 := by rw [flatMap_len Ev.enc_len]; simp; omega
  replace hown : w.ownsRow B 75 7 (.slice (some ⟨g, 0, none⟩) len cap) len (((xs.take k).flatMap Ev.enc) ++ y0 :: (y1 :: y2 :: y3 :: y4 :: y5 :: y6 :: rest)) := by simpa using hown
  have s0 := (hown.stored (k * 7) v0).1
  rw [set_at ((xs.take k).flatMap Ev.enc) (y1 :: y2 :: y3 :: y4 :: y5 :: y6 :: rest) y0 v0 (k * 7) (by simp [hl])] at s0
  have s1 := (s0.stored (k * 7 + 1) v1).1
  rw [set_at (((xs.take k).flatMap Ev.enc) ++ [v0]) (y2 :: y3 :: y4 :: y5 :: y6 :: rest) y1 v1 (k * 7 + 1) (by simp [hl])] at s1
  have s2 := (s1.stored (k * 7 + 2) v2).1
  rw [set_at ((((xs.take k).flatMap Ev.enc) ++ [v0]) ++ [v1]) (y3 :: y4 :: y5 :: y6 :: rest) y2 v2 (k * 7 + 2) (by simp [hl])] at s2
  have s3 := (s2.stored (k * 7 + 3) v3).1
  rw [set_at (((((xs.take k).flatMap Ev.enc) ++ [v0]) ++ [v1]) ++ [v2]) (y4 :: y5 :: y6 :: rest) y3 v3 (k * 7 + 3) (by simp [hl])] at s3
  have s4 := (s3.stored (k * 7 + 4) v4).1
  rw [set_at ((((((xs.take k).flatMap Ev.enc) ++ [v0]) ++ [v1]) ++ [v2]) ++ [v3]) (y5 :: y6 :: rest) y4 v4 (k * 7 + 4) (by simp [hl])] at s4
  have s5 := (s4.stored (k * 7 + 5) v5).1
  rw [set_at (((((((xs.take k).flatMap Ev.enc) ++ [v0]) ++ [v1]) ++ [v2]) ++ [v3]) ++ [v4]) (y6 :: rest) y5 v5 (k * 7 + 5) (by simp [hl])] at s5
  have s6 := (s5.stored (k * 7 + 6) v6).1
  rw [set_at ((((((((xs.take k).flatMap Ev.enc) ++ [v0]) ++ [v1]) ++ [v2]) ++ [v3]) ++ [v4]) ++ [v5]) (rest) y6 v6 (k * 7 + 6) (by simp [hl])] at s6
  refine ⟨rest, ?_, hr⟩
  rw [ht, List.flatMap_append, List.flatMap_cons, List.flatMap_nil, hv, List.append_nil]
  simpa using s6

set_option maxHeartbeats 1600000 in
theorem toEventS_any (a : Option Addr) (len cap : Nat) (xs : List Ev) (w : World) (hs : EvS w w.heap.size a len xs) (hlen : len ≤ 1048576) : Calls Tryz.prog 27 #[.slice a len cap] w fun e w' =>
    (∃ a c, e = .returned (.slice a len c) ∧ EvO w' w.heap.size a len c xs) ∧ Below w.heap.size w w' := by
  obtain ⟨i0, hi, hz0, hz1, hz2⟩ := info_parts infoEvent
  go_enter Tryz.func27, Tryz.ntmps27
  go_wp2_with (at_make; refine wpList_make_full w rfl _ _ _ rfl w.heap.size 75 i0 (.agg #[.int .i64 0, .int .i64 0, .int .i64 0, .int .i64 0, .int .i64 0, .int .i64 0, .bool false]) 7 Tryz.underlying58 hi hz0 hz1 .i64 .i64 _ _ len rfl rfl rfl rfl ?b2 ?b3 (Nat.le_refl _) ?_)
  case b2 => rw [hz2]; omega
  case b3 => unfold maxLen; omega
  intro w1 hown hgr
  have hB1 : Below w.heap.size w w1 := (Below.refl _ _).grown hgr (Nat.le_refl _) (by simp)
  have hxl : xs.length = len := hs.1
  have hown1 : EvPart w1 w.heap.size (some ⟨w.heap.size, 0, none⟩) len len xs 0 := ⟨_, by simpa using hown, by simp [size_madeCells]⟩
  clear hown hgr
  have Hxl := Lib.hid hxl; clear hxl
  go_wp2
  go_loopw [4] (fun i wr => ∃ k : Nat, k ≤ len ∧ i = .int .i64 k ∧ EvPart wr w.heap.size (some ⟨w.heap.size, 0, none⟩) len len xs k ∧ Below w.heap.size w wr) (fun i _ => len - (intOf i).toNat)
  case atStart => exact ⟨0, Nat.zero_le _, rfl, hown1, hB1⟩
  case round =>
    obtain ⟨k, hk, rfl, hown, hB⟩ := hrel
    by_cases hlt : k < len
    · obtain ⟨g, off, x0, x1, x2, x3, x4, x5, x6, rfl, hg, c0, c1, c2, c3, c4, c5, c6, o0, o1, o2, o3, o4, o5, o6, hx, ht⟩ := EvS.cells (hs.keep hB) hlt
      clear o0 o1 o2 o3 o4 o5 o6 hown1
      go_wp2_with fail
      refine (toEvent_any _ _ _ _ _ _ _ _).mono ?_
      rintro e w2 ⟨rfl, hb2⟩
      have hown2 : EvPart w2 w.heap.size (some ⟨w.heap.size, 0, none⟩) len len xs k := by
        obtain ⟨rest, ho, hr⟩ := hown
        exact ⟨rest, ho.kept (row := none) ⟨hb2.os, hb2.tape, hb2.output, hb2.size, fun k hk _ => hb2.block k hk⟩ (by simp [Value.ownBlock]), hr⟩
      have hB2 : Below w.heap.size w w2 := below_via hb2 hB
      obtain ⟨g', y0, y1, y2, y3, y4, y5, y6, rest, e', hg', hr, ho, d0, d1, d2, d3, d4, d5, d6, hfz⟩ := hown2.open_ Hxl.out hlt
      simp only [Option.some.injEq, Addr.mk.injEq, and_true] at e'
      subst e'
      clear hg' hown hown2 hb2
      go_wp2
      go_roundw
      case rel => exact ⟨k + 1, by omega, by go_num, EvPart.put ho hr Hxl.out hlt ht.out rfl, by (repeat (first | (with_reducible exact Below.refl _ _) | (with_reducible assumption) | (with_reducible refine Below.setCell ?_ ?side _; case side => first | (with_reducible exact Nat.le_refl _) | (simp; done) | (simp only [World.size_alloc, World.size_setCell, World.size_drew, World.heap_drewN] at *; omega)) | (with_reducible refine below_alloc ?_ _) | (with_reducible refine Below.drew ?_) | (with_reducible refine below_drewN ?_) | (with_reducible refine below_via (by assumption) ?_)))⟩
      case measure => simp [intOf]; omega
    · go_wp2
      go_ret
      obtain ⟨rest, ho, hr⟩ := hown
      have e : k = len := by omega
      subst e
      have : rest = [] := List.eq_nil_of_length_eq_zero (by simpa using hr)
      subst this
      refine ⟨⟨_, _, rfl, ?_, Hxl.out, hs.2.2.1⟩, hB⟩
      rw [hs.all (Nat.le_refl _)] at ho
      simpa using ho

set_option maxHeartbeats 1600000 in
theorem eqEventS_any (a : Option Addr) (len cap : Nat) (a' : Option Addr) (cap' : Nat) (xs : List Ev) (w : World) (hs : EvS w w.heap.size a len xs) (hs' : EvS w w.heap.size a' len xs) : Calls Tryz.prog 33 #[.slice a len cap, .slice a' len cap'] w fun e w' =>
    e = .returned (.bool true) ∧ Below w.heap.size w w' := by
  have hl := hs.lenB
  go_enter Tryz.func33, Tryz.ntmps33
  go_wp2
  go_loopw [5] (fun i wr => ∃ k : Nat, k ≤ len ∧ i = .int .i64 k ∧ Below w.heap.size w wr) (fun i _ => len - (intOf i).toNat)
  case atStart => exact ⟨0, Nat.zero_le _, rfl, Below.refl _ _⟩
  case round =>
    obtain ⟨k, hk, rfl, hB⟩ := hrel
    by_cases hlt : k < len
    · obtain ⟨g, off, x0, x1, x2, x3, x4, x5, x6, rfl, hg, c0, c1, c2, c3, c4, c5, c6, o0, o1, o2, o3, o4, o5, o6, hx, ht⟩ := EvS.cells (hs.keep hB) hlt
      obtain ⟨g', off', z0, z1, z2, z3, z4, z5, z6, rfl, hg', d0, d1, d2, d3, d4, d5, d6, p0, p1, p2, p3, p4, p5, p6, hz, _⟩ := EvS.cells (hs'.keep hB) hlt
      have he := hz.out
      rw [hx.out] at he
      injection he with he
      injection he with e0 e1 e2 e3 e4 e5 e6
      subst e0 e1 e2 e3 e4 e5 e6
      clear o0 o1 o2 o3 o4 o5 o6 p0 p1 p2 p3 p4 p5 p6 hx ht hz
      go_wp2
      have c0g := fun g : Grew wr => g.cell c0
      have c1g := fun g : Grew wr => g.cell c1
      have c2g := fun g : Grew wr => g.cell c2
      have c3g := fun g : Grew wr => g.cell c3
      have c4g := fun g : Grew wr => g.cell c4
      have c5g := fun g : Grew wr => g.cell c5
      have c6g := fun g : Grew wr => g.cell c6
      have d0g := fun g : Grew wr => g.cell d0
      have d1g := fun g : Grew wr => g.cell d1
      have d2g := fun g : Grew wr => g.cell d2
      have d3g := fun g : Grew wr => g.cell d3
      have d4g := fun g : Grew wr => g.cell d4
      have d5g := fun g : Grew wr => g.cell d5
      have d6g := fun g : Grew wr => g.cell d6
      refine wp_region_grew (by kernel_rfl) (by kernel_rfl) ?_
      repeat (quiet_step ((go_at_call 74; exact Calls.grew_of (eqEvent_any _ _ _ _ _ _ _ _ _ _ _ _ _ _ _))))
      refine wpQuiet_nil ?_
      rintro _ ⟨gw, rfl⟩
      obtain ⟨wg, hbg⟩ := gw
      dsimp only
      clear c0g d0g c1g d1g c2g d2g c3g d3g c4g d4g c5g d5g c6g d6g
      go_wp2
      go_roundw
      case rel => exact ⟨k + 1, by omega, by go_num, below_via hbg hB⟩
      case measure => simp [intOf]; omega
    · go_wp2
      go_ret
      exact ⟨rfl, hB⟩

end Go.Proofs.YtafbdbefmlgioaaGreatDoor
