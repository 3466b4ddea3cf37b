/- Slices of Road: the laws' own functions. By a program of the prover. -/
import Derived.Test.YtegnlijgjcfmlaaDoorOwn
import Derived.Test.YtegnlijgjcfmlaaDoorFlat
namespace Go.Proofs.YtegnlijgjcfmlaaDoor
open Go.RowKit
set_option linter.unusedVariables false
set_option linter.unusedSimpArgs false

structure Rd where
  f : Int
  t : Int
  b : Int
  p : Int
  c : Int
def Rd.enc (r : Rd) : List Value := [.int .i64 r.f, .int .i64 r.t, .int .i64 r.b, .int .i64 r.p, .int .i64 r.c]
def Rd.ok (r : Rd) : Prop := I64 r.f ∧ I64 r.t ∧ I64 r.b ∧ I64 r.p ∧ I64 r.c
theorem Rd.enc_len (r : Rd) : r.enc.length = 5 := rfl
abbrev RdS := FS Rd.enc 5 Rd.ok

theorem infoRoad : (Tryd.prog.info? 32).map (fun i => (i.zero, i.size, i.bytes)) = some (some (.agg #[.int .i64 0, .int .i64 0, .int .i64 0, .int .i64 0, .int .i64 0]), 5, 40) := by kernel_rfl
abbrev RdO := OF Rd.enc 5 Rd.ok 32

theorem RdS.cells {w : World} {B : Nat} {a : Option Addr} {len : Nat} {xs : List Rd} (h : RdS w B a len xs) {k : Nat} (hk : k < len) :
    ∃ g off x0 x1 x2 x3 x4, a = some ⟨g, off, none⟩ ∧ g < B ∧ w.cell? ⟨g, off + k * 5, none⟩ = some (.int .i64 x0) ∧ w.cell? ⟨g, off + k * 5 + 1, none⟩ = some (.int .i64 x1) ∧ w.cell? ⟨g, off + k * 5 + 2, none⟩ = some (.int .i64 x2) ∧ w.cell? ⟨g, off + k * 5 + 3, none⟩ = some (.int .i64 x3) ∧ w.cell? ⟨g, off + k * 5 + 4, none⟩ = some (.int .i64 x4) ∧
      I64 x0 ∧ I64 x1 ∧ I64 x2 ∧ I64 x3 ∧ I64 x4 ∧ Hid (xs[k]? = some ⟨x0, x1, x2, x3, x4⟩) ∧ Hid (xs.take (k + 1) = xs.take k ++ [⟨x0, x1, x2, x3, x4⟩]) := by
  obtain ⟨g, off, r, e, hb, hc, hok, hx, ht⟩ := h.at_ hk
  obtain ⟨x0, x1, x2, x3, x4⟩ := r
  obtain ⟨o0, o1, o2, o3, o4⟩ := hok
  exact ⟨g, off, x0, x1, x2, x3, x4, e, hb, hc 0 _ rfl, hc 1 _ rfl, hc 2 _ rfl, hc 3 _ rfl, hc 4 _ rfl, o0, o1, o2, o3, o4, hx, ht⟩

/-- what is owned while the first k elements are written: they, and as many cells more as are wanted -/
def RdPart (w : World) (B : Nat) (a : Option Addr) (len cap : Nat) (xs : List Rd) (k : Nat) : Prop :=
  ∃ rest : List Value, w.ownsRow B 32 5 (.slice a len cap) len ((xs.take k).flatMap Rd.enc ++ rest) ∧ rest.length = (len - k) * 5
theorem RdPart.open_ {w : World} {B : Nat} {a : Option Addr} {len cap : Nat} {xs : List Rd} {k : Nat} (h : RdPart w B a len cap xs k) (hx : xs.length = len) (hk : k < len) :
    ∃ g y0 y1 y2 y3 y4 rest, a = some ⟨g, 0, none⟩ ∧ B ≤ g ∧ rest.length = (len - (k + 1)) * 5 ∧ w.ownsRow B 32 5 (.slice (some ⟨g, 0, none⟩) len cap) len ((xs.take k).flatMap Rd.enc ++ [y0, y1, y2, y3, y4] ++ rest) ∧
      w.cell? ⟨g, k * 5, none⟩ = some y0 ∧ w.cell? ⟨g, k * 5 + 1, none⟩ = some y1 ∧ w.cell? ⟨g, k * 5 + 2, none⟩ = some y2 ∧ w.cell? ⟨g, k * 5 + 3, none⟩ = some y3 ∧ w.cell? ⟨g, k * 5 + 4, none⟩ = some y4 ∧ ∀ o, w.frozen? ⟨g, o, none⟩ = false := by
  obtain ⟨rest, hown, hr⟩ := h
  obtain ⟨g, rfl, hg⟩ := block_ne w hown (by omega)
  obtain ⟨y0, y1, y2, y3, y4, r', rfl⟩ : ∃ y0 y1 y2 y3 y4 r', rest = y0 :: y1 :: y2 :: y3 :: y4 :: r' := by
    have : 5 ≤ rest.length := by omega
    match rest, this with
    | y0 :: y1 :: y2 :: y3 :: y4 :: r', _ => exact ⟨y0, y1, y2, y3, y4, r', rfl⟩
  have hl : ((xs.take k).flatMap Rd.enc).length = k * 5 := by rw [flatMap_len Rd.enc_len]; simp; omega
  have hkk : k * 5 + 5 ≤ len * 5 := by omega
  have get : ∀ j v, [y0, y1, y2, y3, y4][j]? = some v → w.cell? ⟨g, k * 5 + j, none⟩ = some v := by
    intro j v hv
    have hj : j < 5 := (List.getElem?_eq_some_iff.1 hv).1
    rw [hown.cellAt (k * 5 + j) (by omega), List.getElem?_append_right (by omega), hl, show k * 5 + j - k * 5 = j by omega]
    rw [show (y0 :: y1 :: y2 :: y3 :: y4 :: r') = [y0, y1, y2, y3, y4] ++ r' from rfl, List.getElem?_append_left (by simpa using hj)]
    exact hv
  refine ⟨g, y0, y1, y2, y3, y4, r', rfl, hg, ?_, by simpa using hown, get 0 _ rfl, get 1 _ rfl, get 2 _ rfl, get 3 _ rfl, get 4 _ rfl, fun o => hown.frozenAt o⟩
  simp at hr
  omega

set_option maxRecDepth 10000 in
theorem RdPart.put {w : World} {B g len cap : Nat} {xs : List Rd} {k : Nat} {r : Rd} {y0 y1 y2 y3 y4 v0 v1 v2 v3 v4 : Value} {rest : List Value} (hown : w.ownsRow B 32 5 (.slice (some ⟨g, 0, none⟩) len cap) len ((xs.take k).flatMap Rd.enc ++ [y0, y1, y2, y3, y4] ++ rest)) (hr : rest.length = (len - (k + 1)) * 5) (hx : xs.length = len) (hk : k < len)
    (ht : xs.take (k + 1) = xs.take k ++ [r]) (hv : r.enc = [v0, v1, v2, v3, v4]) : RdPart (((((w.setCell ⟨g, k * 5, none⟩ v0).setCell ⟨g, k * 5 + 1, none⟩ v1).setCell ⟨g, k * 5 + 2, none⟩ v2).setCell ⟨g, k * 5 + 3, none⟩ v3).setCell ⟨g, k * 5 + 4, none⟩ v4) B (some ⟨g, 0, none⟩) len cap xs (k + 1) := by
  have hl : ((xs.take k).flatMap Rd.enc).length = k * 5 := by rw [flatMap_len Rd.enc_len]; simp; omega
  replace hown : w.ownsRow B 32 5 (.slice (some ⟨g, 0, none⟩) len cap) len (((xs.take k).flatMap Rd.enc) ++ y0 :: (y1 :: y2 :: y3 :: y4 :: rest)) := by simpa using hown
  have s0 := (hown.stored (k * 5) v0).1
  rw [set_at ((xs.take k).flatMap Rd.enc) (y1 :: y2 :: y3 :: y4 :: rest) y0 v0 (k * 5) (by simp [hl])] at s0
  have s1 := (s0.stored (k * 5 + 1) v1).1
  rw [set_at (((xs.take k).flatMap Rd.enc) ++ [v0]) (y2 :: y3 :: y4 :: rest) y1 v1 (k * 5 + 1) (by simp [hl])] at s1
  have s2 := (s1.stored (k * 5 + 2) v2).1
  rw [set_at ((((xs.take k).flatMap Rd.enc) ++ [v0]) ++ [v1]) (y3 :: y4 :: rest) y2 v2 (k * 5 + 2) (by simp [hl])] at s2
  have s3 := (s2.stored (k * 5 + 3) v3).1
  rw [set_at (((((xs.take k).flatMap Rd.enc) ++ [v0]) ++ [v1]) ++ [v2]) (y4 :: rest) y3 v3 (k * 5 + 3) (by simp [hl])] at s3
  have s4 := (s3.stored (k * 5 + 4) v4).1
  rw [set_at ((((((xs.take k).flatMap Rd.enc) ++ [v0]) ++ [v1]) ++ [v2]) ++ [v3]) (rest) y4 v4 (k * 5 + 4) (by simp [hl])] at s4
  refine ⟨rest, ?_, hr⟩
  rw [ht, List.flatMap_append, List.flatMap_cons, List.flatMap_nil, hv, List.append_nil]
  simpa using s4

end Go.Proofs.YtegnlijgjcfmlaaDoor
