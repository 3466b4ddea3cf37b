/- Slices of Line: the laws' own functions. By a program of the prover. -/
import Derived.Test.YtafbdbefmlgioaaGreatDoorOwn
import Derived.Test.YtafbdbefmlgioaaGreatDoorFlat
namespace Go.Proofs.YtafbdbefmlgioaaGreatDoor
open Go.RowKit
set_option linter.unusedVariables false
set_option linter.unusedSimpArgs false

structure Ln where
  kind : Int
  ch : Int
  amt : Int
def Ln.enc (r : Ln) : List Value := [.int .i64 r.kind, .int .i64 r.ch, .int .i64 r.amt]
def Ln.ok (r : Ln) : Prop := I64 r.kind ∧ I64 r.ch ∧ I64 r.amt
theorem Ln.enc_len (r : Ln) : r.enc.length = 3 := rfl
abbrev LnS := FS Ln.enc 3 Ln.ok

theorem infoLine : (Tryz.prog.info? 98).map (fun i => (i.zero, i.size, i.bytes)) = some (some (.agg #[.int .i64 0, .int .i64 0, .int .i64 0]), 3, 24) := by kernel_rfl
abbrev LnO := OF Ln.enc 3 Ln.ok 98

theorem LnS.cells {w : World} {B : Nat} {a : Option Addr} {len : Nat} {xs : List Ln} (h : LnS w B a len xs) {k : Nat} (hk : k < len) :
    ∃ g off x0 x1 x2, a = some ⟨g, off, none⟩ ∧ g < B ∧ w.cell? ⟨g, off + k * 3, none⟩ = some (.int .i64 x0) ∧ w.cell? ⟨g, off + k * 3 + 1, none⟩ = some (.int .i64 x1) ∧ w.cell? ⟨g, off + k * 3 + 2, none⟩ = some (.int .i64 x2) ∧
      I64 x0 ∧ I64 x1 ∧ I64 x2 ∧ Hid (xs[k]? = some ⟨x0, x1, x2⟩) ∧ Hid (xs.take (k + 1) = xs.take k ++ [⟨x0, x1, x2⟩]) := by
  obtain ⟨g, off, r, e, hb, hc, hok, hx, ht⟩ := h.at_ hk
  obtain ⟨x0, x1, x2⟩ := r
  obtain ⟨o0, o1, o2⟩ := hok
  exact ⟨g, off, x0, x1, x2, e, hb, hc 0 _ rfl, hc 1 _ rfl, hc 2 _ rfl, o0, o1, o2, hx, ht⟩

set_option maxHeartbeats 400000 in
theorem szLineS_any (a : Option Addr) (len cap : Nat) (n : Int) (w : World) (hl : len ≤ 9223372036854775807) (h0 : 0 ≤ n) (h1 : n ≤ 1048576) : Calls Tryz.prog 93 #[.slice a len cap, .int .i64 n] w fun e w' =>
    e = .returned (.int .i64 (if n - (len : Int) < 0 then -1 else n - len)) ∧ w = w' := by
  by_cases h : n - (len : Int) < 0
  · rw [if_pos h]
    go_enter Tryz.func93, Tryz.ntmps93
    go_wp2
    go_ret
    exact ⟨rfl, rfl⟩
  · rw [if_neg h]
    go_enter Tryz.func93, Tryz.ntmps93
    go_wp2
    go_ret
    exact ⟨rfl, rfl⟩

/-- what is owned while the first k elements are written: they, and as many cells more as are wanted -/
def LnPart (w : World) (B : Nat) (a : Option Addr) (len cap : Nat) (xs : List Ln) (k : Nat) : Prop :=
  ∃ rest : List Value, w.ownsRow B 98 3 (.slice a len cap) len ((xs.take k).flatMap Ln.enc ++ rest) ∧ rest.length = (len - k) * 3
theorem LnPart.open_ {w : World} {B : Nat} {a : Option Addr} {len cap : Nat} {xs : List Ln} {k : Nat} (h : LnPart w B a len cap xs k) (hx : xs.length = len) (hk : k < len) :
    ∃ g y0 y1 y2 rest, a = some ⟨g, 0, none⟩ ∧ B ≤ g ∧ rest.length = (len - (k + 1)) * 3 ∧ w.ownsRow B 98 3 (.slice (some ⟨g, 0, none⟩) len cap) len ((xs.take k).flatMap Ln.enc ++ [y0, y1, y2] ++ rest) ∧
      w.cell? ⟨g, k * 3, none⟩ = some y0 ∧ w.cell? ⟨g, k * 3 + 1, none⟩ = some y1 ∧ w.cell? ⟨g, k * 3 + 2, none⟩ = some y2 ∧ ∀ o, w.frozen? ⟨g, o, none⟩ = false := by
  obtain ⟨rest, hown, hr⟩ := h
  obtain ⟨g, rfl, hg⟩ := block_ne w hown (by omega)
  obtain ⟨y0, y1, y2, r', rfl⟩ : ∃ y0 y1 y2 r', rest = y0 :: y1 :: y2 :: r' := by
    have : 3 ≤ rest.length := by omega
    match rest, this with
    | y0 :: y1 :: y2 :: r', _ => exact ⟨y0, y1, y2, r', rfl⟩
  have hl : ((xs.take k).flatMap Ln.enc).length = k * 3 := by rw [flatMap_len Ln.enc_len]; simp; omega
  have hkk : k * 3 + 3 ≤ len * 3 := by omega
  have get : ∀ j v, [y0, y1, y2][j]? = some v → w.cell? ⟨g, k * 3 + j, none⟩ = some v := by
    intro j v hv
    have hj : j < 3 := (List.getElem?_eq_some_iff.1 hv).1
    rw [hown.cellAt (k * 3 + j) (by omega), List.getElem?_append_right (by omega), hl, show k * 3 + j - k * 3 = j by omega]
    rw [show (y0 :: y1 :: y2 :: r') = [y0, y1, y2] ++ r' from rfl, List.getElem?_append_left (by simpa using hj)]
    exact hv
  refine ⟨g, y0, y1, y2, r', rfl, hg, ?_, by simpa using hown, get 0 _ rfl, get 1 _ rfl, get 2 _ rfl, fun o => hown.frozenAt o⟩
  simp at hr
  omega

set_option maxRecDepth 10000 in
theorem LnPart.put {w : World} {B g len cap : Nat} {xs : List Ln} {k : Nat} {r : Ln} {y0 y1 y2 v0 v1 v2 : Value} {rest : List Value} (hown : w.ownsRow B 98 3 (.slice (some ⟨g, 0, none⟩) len cap) len ((xs.take k).flatMap Ln.enc ++ [y0, y1, y2] ++ rest)) (hr : rest.length = (len - (k + 1)) * 3) (hx : xs.length = len) (hk : k < len)
    (ht : xs.take (k + 1) = xs.take k ++ [r]) (hv : r.enc = [v0, v1, v2]) : LnPart (((w.setCell ⟨g, k * 3, none⟩ v0).setCell ⟨g, k * 3 + 1, none⟩ v1).setCell ⟨g, k * 3 + 2, none⟩ v2) B (some ⟨g, 0, none⟩) len cap xs (k + 1) := by
  have hl : ((xs.take k).flatMap Ln.enc).length = k * 3 := by rw [flatMap_len Ln.enc_len]; simp; omega
  replace hown : w.ownsRow B 98 3 (.slice (some ⟨g, 0, none⟩) len cap) len (((xs.take k).flatMap Ln.enc) ++ y0 :: (y1 :: y2 :: rest)) := by simpa using hown
  have s0 := (hown.stored (k * 3) v0).1
  rw [set_at ((xs.take k).flatMap Ln.enc) (y1 :: y2 :: rest) y0 v0 (k * 3) (by simp [hl])] at s0
  have s1 := (s0.stored (k * 3 + 1) v1).1
  rw [set_at (((xs.take k).flatMap Ln.enc) ++ [v0]) (y2 :: rest) y1 v1 (k * 3 + 1) (by simp [hl])] at s1
  have s2 := (s1.stored (k * 3 + 2) v2).1
  rw [set_at ((((xs.take k).flatMap Ln.enc) ++ [v0]) ++ [v1]) (rest) y2 v2 (k * 3 + 2) (by simp [hl])] at s2
  refine ⟨rest, ?_, hr⟩
  rw [ht, List.flatMap_append, List.flatMap_cons, List.flatMap_nil, hv, List.append_nil]
  simpa using s2

set_option maxHeartbeats 1600000 in
theorem toLineS_any (a : Option Addr) (len cap : Nat) (xs : List Ln) (w : World) (hs : LnS w w.heap.size a len xs) (hlen : len ≤ 1048576) : Calls Tryz.prog 99 #[.slice a len cap] w fun e w' =>
    (∃ a c, e = .returned (.slice a len c) ∧ LnO w' w.heap.size a len c xs) ∧ Below w.heap.size w w' := by
  obtain ⟨i0, hi, hz0, hz1, hz2⟩ := info_parts infoLine
  go_enter Tryz.func99, Tryz.ntmps99
  go_wp2_with (at_make; refine wpList_make_full w rfl _ _ _ rfl w.heap.size 98 i0 (.agg #[.int .i64 0, .int .i64 0, .int .i64 0]) 3 Tryz.underlying55 hi hz0 hz1 .i64 .i64 _ _ len rfl rfl rfl rfl ?b2 ?b3 (Nat.le_refl _) ?_)
  case b2 => rw [hz2]; omega
  case b3 => unfold maxLen; omega
  intro w1 hown hgr
  have hB1 : Below w.heap.size w w1 := (Below.refl _ _).grown hgr (Nat.le_refl _) (by simp)
  have hxl : xs.length = len := hs.1
  have hown1 : LnPart w1 w.heap.size (some ⟨w.heap.size, 0, none⟩) len len xs 0 := ⟨_, by simpa using hown, by simp [size_madeCells]⟩
  clear hown hgr
  have Hxl := Lib.hid hxl; clear hxl
  go_wp2
  go_loopw [4] (fun i wr => ∃ k : Nat, k ≤ len ∧ i = .int .i64 k ∧ LnPart wr w.heap.size (some ⟨w.heap.size, 0, none⟩) len len xs k ∧ Below w.heap.size w wr) (fun i _ => len - (intOf i).toNat)
  case atStart => exact ⟨0, Nat.zero_le _, rfl, hown1, hB1⟩
  case round =>
    obtain ⟨k, hk, rfl, hown, hB⟩ := hrel
    by_cases hlt : k < len
    · obtain ⟨g, off, x0, x1, x2, rfl, hg, c0, c1, c2, o0, o1, o2, hx, ht⟩ := LnS.cells (hs.keep hB) hlt
      clear o0 o1 o2 hown1
      go_wp2_with fail
      refine (toLine_any _ _ _ _).mono ?_
      rintro e w2 ⟨rfl, hb2⟩
      have hown2 : LnPart w2 w.heap.size (some ⟨w.heap.size, 0, none⟩) len len xs k := by
        obtain ⟨rest, ho, hr⟩ := hown
        exact ⟨rest, ho.kept (row := none) ⟨hb2.os, hb2.tape, hb2.output, hb2.size, fun k hk _ => hb2.block k hk⟩ (by simp [Value.ownBlock]), hr⟩
      have hB2 : Below w.heap.size w w2 := below_via hb2 hB
      obtain ⟨g', y0, y1, y2, rest, e', hg', hr, ho, d0, d1, d2, hfz⟩ := hown2.open_ Hxl.out hlt
      simp only [Option.some.injEq, Addr.mk.injEq, and_true] at e'
      subst e'
      clear hg' hown hown2 hb2
      go_wp2
      go_roundw
      case rel => exact ⟨k + 1, by omega, by go_num, LnPart.put ho hr Hxl.out hlt ht.out rfl, by (repeat (first | (with_reducible exact Below.refl _ _) | (with_reducible assumption) | (with_reducible refine Below.setCell ?_ ?side _; case side => first | (with_reducible exact Nat.le_refl _) | (simp; done) | (simp only [World.size_alloc, World.size_setCell, World.size_drew, World.heap_drewN] at *; omega)) | (with_reducible refine below_alloc ?_ _) | (with_reducible refine Below.drew ?_) | (with_reducible refine below_drewN ?_) | (with_reducible refine below_via (by assumption) ?_)))⟩
      case measure => simp [intOf]; omega
    · go_wp2
      go_ret
      obtain ⟨rest, ho, hr⟩ := hown
      have e : k = len := by omega
      subst e
      have : rest = [] := List.eq_nil_of_length_eq_zero (by simpa using hr)
      subst this
      refine ⟨⟨_, _, rfl, ?_, Hxl.out, hs.2.2.1⟩, hB⟩
      rw [hs.all (Nat.le_refl _)] at ho
      simpa using ho

set_option maxHeartbeats 1600000 in
theorem eqLineS_any (a : Option Addr) (len cap : Nat) (a' : Option Addr) (cap' : Nat) (xs : List Ln) (w : World) (hs : LnS w w.heap.size a len xs) (hs' : LnS w w.heap.size a' len xs) : Calls Tryz.prog 109 #[.slice a len cap, .slice a' len cap'] w fun e w' =>
    e = .returned (.bool true) ∧ Below w.heap.size w w' := by
  have hl := hs.lenB
  go_enter Tryz.func109, Tryz.ntmps109
  go_wp2
  go_loopw [5] (fun i wr => ∃ k : Nat, k ≤ len ∧ i = .int .i64 k ∧ Below w.heap.size w wr) (fun i _ => len - (intOf i).toNat)
  case atStart => exact ⟨0, Nat.zero_le _, rfl, Below.refl _ _⟩
  case round =>
    obtain ⟨k, hk, rfl, hB⟩ := hrel
    by_cases hlt : k < len
    · obtain ⟨g, off, x0, x1, x2, rfl, hg, c0, c1, c2, o0, o1, o2, hx, ht⟩ := LnS.cells (hs.keep hB) hlt
      obtain ⟨g', off', z0, z1, z2, rfl, hg', d0, d1, d2, p0, p1, p2, hz, _⟩ := LnS.cells (hs'.keep hB) hlt
      have he := hz.out
      rw [hx.out] at he
      injection he with he
      injection he with e0 e1 e2
      subst e0 e1 e2
      clear o0 o1 o2 p0 p1 p2 hx ht hz
      go_wp2
      have c0g := fun g : Grew wr => g.cell c0
      have c1g := fun g : Grew wr => g.cell c1
      have c2g := fun g : Grew wr => g.cell c2
      have d0g := fun g : Grew wr => g.cell d0
      have d1g := fun g : Grew wr => g.cell d1
      have d2g := fun g : Grew wr => g.cell d2
      refine wp_region_grew (by kernel_rfl) (by kernel_rfl) ?_
      repeat (quiet_step ((go_at_call 143; exact Calls.grew_of (eqLine_any _ _ _ _ _ _ _))))
      refine wpQuiet_nil ?_
      rintro _ ⟨gw, rfl⟩
      obtain ⟨wg, hbg⟩ := gw
      dsimp only
      clear c0g d0g c1g d1g c2g d2g
      go_wp2
      go_roundw
      case rel => exact ⟨k + 1, by omega, by go_num, below_via hbg hB⟩
      case measure => simp [intOf]; omega
    · go_wp2
      go_ret
      exact ⟨rfl, hB⟩

end Go.Proofs.YtafbdbefmlgioaaGreatDoor
