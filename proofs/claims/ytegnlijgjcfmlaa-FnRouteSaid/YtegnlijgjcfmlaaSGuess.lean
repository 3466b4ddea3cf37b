/- Slices of Guess: the laws' own functions. By a program of the prover. -/
import Derived.Test.YtegnlijgjcfmlaaOwn
import Derived.Test.YtegnlijgjcfmlaaFlat
namespace Go.Proofs.Ytegnlijgjcfmlaa
open Go.RowKit
set_option linter.unusedVariables false
set_option linter.unusedSimpArgs false

structure Gs where
  f : Int
  t : Int
  l : Int
  p : Int
def Gs.enc (r : Gs) : List Value := [.int .i64 r.f, .int .i64 r.t, .int .i64 r.l, .int .i64 r.p]
def Gs.ok (r : Gs) : Prop := I64 r.f ∧ I64 r.t ∧ I64 r.l ∧ I64 r.p
theorem Gs.enc_len (r : Gs) : r.enc.length = 4 := rfl
abbrev GsS := FS Gs.enc 4 Gs.ok

theorem infoGuess : (Try.prog.info? 32).map (fun i => (i.zero, i.size, i.bytes)) = some (some (.agg #[.int .i64 0, .int .i64 0, .int .i64 0, .int .i64 0]), 4, 32) := by kernel_rfl
abbrev GsO := OF Gs.enc 4 Gs.ok 32

theorem GsS.cells {w : World} {B : Nat} {a : Option Addr} {len : Nat} {xs : List Gs} (h : GsS w B a len xs) {k : Nat} (hk : k < len) :
    ∃ g off x0 x1 x2 x3, a = some ⟨g, off, none⟩ ∧ g < B ∧ w.cell? ⟨g, off + k * 4, none⟩ = some (.int .i64 x0) ∧ w.cell? ⟨g, off + k * 4 + 1, none⟩ = some (.int .i64 x1) ∧ w.cell? ⟨g, off + k * 4 + 2, none⟩ = some (.int .i64 x2) ∧ w.cell? ⟨g, off + k * 4 + 3, none⟩ = some (.int .i64 x3) ∧
      I64 x0 ∧ I64 x1 ∧ I64 x2 ∧ I64 x3 ∧ Hid (xs[k]? = some ⟨x0, x1, x2, x3⟩) ∧ Hid (xs.take (k + 1) = xs.take k ++ [⟨x0, x1, x2, x3⟩]) := by
  obtain ⟨g, off, r, e, hb, hc, hok, hx, ht⟩ := h.at_ hk
  obtain ⟨x0, x1, x2, x3⟩ := r
  obtain ⟨o0, o1, o2, o3⟩ := hok
  exact ⟨g, off, x0, x1, x2, x3, e, hb, hc 0 _ rfl, hc 1 _ rfl, hc 2 _ rfl, hc 3 _ rfl, o0, o1, o2, o3, hx, ht⟩

/-- what is owned while the first k elements are written: they, and as many cells more as are wanted -/
def GsPart (w : World) (B : Nat) (a : Option Addr) (len cap : Nat) (xs : List Gs) (k : Nat) : Prop :=
  ∃ rest : List Value, w.ownsRow B 32 4 (.slice a len cap) len ((xs.take k).flatMap Gs.enc ++ rest) ∧ rest.length = (len - k) * 4
theorem GsPart.open_ {w : World} {B : Nat} {a : Option Addr} {len cap : Nat} {xs : List Gs} {k : Nat} (h : GsPart w B a len cap xs k) (hx : xs.length = len) (hk : k < len) :
    ∃ g y0 y1 y2 y3 rest, a = some ⟨g, 0, none⟩ ∧ B ≤ g ∧ rest.length = (len - (k + 1)) * 4 ∧ w.ownsRow B 32 4 (.slice (some ⟨g, 0, none⟩) len cap) len ((xs.take k).flatMap Gs.enc ++ [y0, y1, y2, y3] ++ rest) ∧
      w.cell? ⟨g, k * 4, none⟩ = some y0 ∧ w.cell? ⟨g, k * 4 + 1, none⟩ = some y1 ∧ w.cell? ⟨g, k * 4 + 2, none⟩ = some y2 ∧ w.cell? ⟨g, k * 4 + 3, none⟩ = some y3 ∧ ∀ o, w.frozen? ⟨g, o, none⟩ = false := by
  obtain ⟨rest, hown, hr⟩ := h
  obtain ⟨g, rfl, hg⟩ := block_ne w hown (by omega)
  obtain ⟨y0, y1, y2, y3, r', rfl⟩ : ∃ y0 y1 y2 y3 r', rest = y0 :: y1 :: y2 :: y3 :: r' := by
    have : 4 ≤ rest.length := by omega
    match rest, this with
    | y0 :: y1 :: y2 :: y3 :: r', _ => exact ⟨y0, y1, y2, y3, r', rfl⟩
  have hl : ((xs.take k).flatMap Gs.enc).length = k * 4 := by rw [flatMap_len Gs.enc_len]; simp; omega
  have hkk : k * 4 + 4 ≤ len * 4 := by omega
  have get : ∀ j v, [y0, y1, y2, y3][j]? = some v → w.cell? ⟨g, k * 4 + j, none⟩ = some v := by
    intro j v hv
    have hj : j < 4 := (List.getElem?_eq_some_iff.1 hv).1
    rw [hown.cellAt (k * 4 + j) (by omega), List.getElem?_append_right (by omega), hl, show k * 4 + j - k * 4 = j by omega]
    rw [show (y0 :: y1 :: y2 :: y3 :: r') = [y0, y1, y2, y3] ++ r' from rfl, List.getElem?_append_left (by simpa using hj)]
    exact hv
  refine ⟨g, y0, y1, y2, y3, r', rfl, hg, ?_, by simpa using hown, get 0 _ rfl, get 1 _ rfl, get 2 _ rfl, get 3 _ rfl, fun o => hown.frozenAt o⟩
  simp at hr
  omega

set_option maxRecDepth 10000 in
theorem GsPart.put {w : World} {B g len cap : Nat} {xs : List Gs} {k : Nat} {r : Gs} {y0 y1 y2 y3 v0 v1 v2 v3 : Value} {rest : List Value} (hown : w.ownsRow B 32 4 (.slice (some ⟨g, 0, none⟩) len cap) len ((xs.take k).flatMap Gs.enc ++ [y0, y1, y2, y3] ++ rest)) (hr : rest.length = (len - (k + 1)) * 4) (hx : xs.length = len) (hk : k < len)
    (ht : xs.take (k + 1) = xs.take k ++ [r]) (hv : r.enc = [v0, v1, v2, v3]) : GsPart ((((w.setCell ⟨g, k * 4, none⟩ v0).setCell ⟨g, k * 4 + 1, none⟩ v1).setCell ⟨g, k * 4 + 2, none⟩ v2).setCell ⟨g, k * 4 + 3, none⟩ v3) B (some ⟨g, 0, none⟩) len cap xs (k + 1) := by
  have hl : ((xs.take k).flatMap Gs.enc).length = k * 4 := by rw [flatMap_len Gs.enc_len]; simp; omega
  replace hown : w.ownsRow B 32 4 (.slice (some ⟨g, 0, none⟩) len cap) len (((xs.take k).flatMap Gs.enc) ++ y0 :: (y1 :: y2 :: y3 :: rest)) := by simpa using hown
  have s0 := (hown.stored (k * 4) v0).1
  rw [set_at ((xs.take k).flatMap Gs.enc) (y1 :: y2 :: y3 :: rest) y0 v0 (k * 4) (by simp [hl])] at s0
  have s1 := (s0.stored (k * 4 + 1) v1).1
  rw [set_at (((xs.take k).flatMap Gs.enc) ++ [v0]) (y2 :: y3 :: rest) y1 v1 (k * 4 + 1) (by simp [hl])] at s1
  have s2 := (s1.stored (k * 4 + 2) v2).1
  rw [set_at ((((xs.take k).flatMap Gs.enc) ++ [v0]) ++ [v1]) (y3 :: rest) y2 v2 (k * 4 + 2) (by simp [hl])] at s2
  have s3 := (s2.stored (k * 4 + 3) v3).1
  rw [set_at (((((xs.take k).flatMap Gs.enc) ++ [v0]) ++ [v1]) ++ [v2]) (rest) y3 v3 (k * 4 + 3) (by simp [hl])] at s3
  refine ⟨rest, ?_, hr⟩
  rw [ht, List.flatMap_append, List.flatMap_cons, List.flatMap_nil, hv, List.append_nil]
  simpa using s3

end Go.Proofs.Ytegnlijgjcfmlaa
