/- Slices of Bill: the laws' own functions. By a program of the prover. -/
import Derived.Test.YtegnlijgjcfmlaaDoorOwn
import Derived.Test.YtegnlijgjcfmlaaDoorFlat
namespace Go.Proofs.YtegnlijgjcfmlaaDoor
open Go.RowKit
set_option linter.unusedVariables false
set_option linter.unusedSimpArgs false

structure Bl where
  i : Int
  p : Int
  a : Int
  m : Int
  d : Int
  s : ByteArray
def Bl.enc (r : Bl) : List Value := [.int .i64 r.i, .int .i64 r.p, .int .i64 r.a, .int .i64 r.m, .int .i64 r.d, .string r.s]
def Bl.ok (r : Bl) : Prop := I64 r.i ∧ I64 r.p ∧ I64 r.a ∧ I64 r.m ∧ I64 r.d ∧ StrOk r.s
theorem Bl.enc_len (r : Bl) : r.enc.length = 6 := rfl
abbrev BlS := FS Bl.enc 6 Bl.ok

theorem infoBill : (Tryd.prog.info? 42).map (fun i => (i.zero, i.size, i.bytes)) = some (some (.agg #[.int .i64 0, .int .i64 0, .int .i64 0, .int .i64 0, .int .i64 0, .string ByteArray.empty]), 6, 56) := by kernel_rfl
abbrev BlO := OF Bl.enc 6 Bl.ok 42

theorem BlS.cells {w : World} {B : Nat} {a : Option Addr} {len : Nat} {xs : List Bl} (h : BlS w B a len xs) {k : Nat} (hk : k < len) :
    ∃ g off x0 x1 x2 x3 x4 x5, a = some ⟨g, off, none⟩ ∧ g < B ∧ w.cell? ⟨g, off + k * 6, none⟩ = some (.int .i64 x0) ∧ w.cell? ⟨g, off + k * 6 + 1, none⟩ = some (.int .i64 x1) ∧ w.cell? ⟨g, off + k * 6 + 2, none⟩ = some (.int .i64 x2) ∧ w.cell? ⟨g, off + k * 6 + 3, none⟩ = some (.int .i64 x3) ∧ w.cell? ⟨g, off + k * 6 + 4, none⟩ = some (.int .i64 x4) ∧ w.cell? ⟨g, off + k * 6 + 5, none⟩ = some (.string x5) ∧
      I64 x0 ∧ I64 x1 ∧ I64 x2 ∧ I64 x3 ∧ I64 x4 ∧ StrOk x5 ∧ Hid (xs[k]? = some ⟨x0, x1, x2, x3, x4, x5⟩) ∧ Hid (xs.take (k + 1) = xs.take k ++ [⟨x0, x1, x2, x3, x4, x5⟩]) := by
  obtain ⟨g, off, r, e, hb, hc, hok, hx, ht⟩ := h.at_ hk
  obtain ⟨x0, x1, x2, x3, x4, x5⟩ := r
  obtain ⟨o0, o1, o2, o3, o4, o5⟩ := hok
  exact ⟨g, off, x0, x1, x2, x3, x4, x5, e, hb, hc 0 _ rfl, hc 1 _ rfl, hc 2 _ rfl, hc 3 _ rfl, hc 4 _ rfl, hc 5 _ rfl, o0, o1, o2, o3, o4, o5, hx, ht⟩

/-- what is owned while the first k elements are written: they, and as many cells more as are wanted -/
def BlPart (w : World) (B : Nat) (a : Option Addr) (len cap : Nat) (xs : List Bl) (k : Nat) : Prop :=
  ∃ rest : List Value, w.ownsRow B 42 6 (.slice a len cap) len ((xs.take k).flatMap Bl.enc ++ rest) ∧ rest.length = (len - k) * 6
theorem BlPart.open_ {w : World} {B : Nat} {a : Option Addr} {len cap : Nat} {xs : List Bl} {k : Nat} (h : BlPart w B a len cap xs k) (hx : xs.length = len) (hk : k < len) :
    ∃ g y0 y1 y2 y3 y4 y5 rest, a = some ⟨g, 0, none⟩ ∧ B ≤ g ∧ rest.length = (len - (k + 1)) * 6 ∧ w.ownsRow B 42 6 (.slice (some ⟨g, 0, none⟩) len cap) len ((xs.take k).flatMap Bl.enc ++ [y0, y1, y2, y3, y4, y5] ++ rest) ∧
      w.cell? ⟨g, k * 6, none⟩ = some y0 ∧ w.cell? ⟨g, k * 6 + 1, none⟩ = some y1 ∧ w.cell? ⟨g, k * 6 + 2, none⟩ = some y2 ∧ w.cell? ⟨g, k * 6 + 3, none⟩ = some y3 ∧ w.cell? ⟨g, k * 6 + 4, none⟩ = some y4 ∧ w.cell? ⟨g, k * 6 + 5, none⟩ = some y5 ∧ ∀ o, w.frozen? ⟨g, o, none⟩ = false := by
  obtain ⟨rest, hown, hr⟩ := h
  obtain ⟨g, rfl, hg⟩ := block_ne w hown (by omega)
  obtain ⟨y0, y1, y2, y3, y4, y5, r', rfl⟩ : ∃ y0 y1 y2 y3 y4 y5 r', rest = y0 :: y1 :: y2 :: y3 :: y4 :: y5 :: r' := by
    have : 6 ≤ rest.length := by omega
    match rest, this with
    | y0 :: y1 :: y2 :: y3 :: y4 :: y5 :: r', _ => exact ⟨y0, y1, y2, y3, y4, y5, r', rfl⟩
  have hl : ((xs.take k).flatMap Bl.enc).length = k * 6 := by rw [flatMap_len Bl.enc_len]; simp; omega
  have hkk : k * 6 + 6 ≤ len * 6 := by omega
  have get : ∀ j v, [y0, y1, y2, y3, y4, y5][j]? = some v → w.cell? ⟨g, k * 6 + j, none⟩ = some v := by
    intro j v hv
    have hj : j < 6 := (List.getElem?_eq_some_iff.1 hv).1
    rw [hown.cellAt (k * 6 + j) (by omega), List.getElem?_append_right (by omega), hl, show k * 6 + j - k * 6 = j by omega]
    rw [show (y0 :: y1 :: y2 :: y3 :: y4 :: y5 :: r') = [y0, y1, y2, y3, y4, y5] ++ r' from rfl, List.getElem?_append_left (by simpa using hj)]
    exact hv
  refine ⟨g, y0, y1, y2, y3, y4, y5, r', rfl, hg, ?_, by simpa using hown, get 0 _ rfl, get 1 _ rfl, get 2 _ rfl, get 3 _ rfl, get 4 _ rfl, get 5 _ rfl, fun o => hown.frozenAt o⟩
  simp at hr
  omega

set_option maxRecDepth 10000 in
theorem BlPart.put {w : World} {B g len cap : Nat} {xs : List Bl} {k : Nat} {r : Bl} {y0 y1 y2 y3 y4 y5 v0 v1 v2 v3 v4 v5 : Value} {rest : List Value} (hown : w.ownsRow B 42 6 (.slice (some ⟨g, 0, none⟩) len cap) len ((xs.take k).flatMap Bl.enc ++ [y0, y1, y2, y3, y4, y5] ++ rest)) (hr : rest.length = (len - (k + 1)) * 6) (hx : xs.length = len) (hk : k < len)
    (ht : xs.take (k + 1) = xs.take k ++ [r]) (hv : r.enc = [v0, v1, v2, v3, v4, v5]) : BlPart ((((((w.setCell ⟨g, k * 6, none⟩ v0).setCell ⟨g, k * 6 + 1, none⟩ v1).setCell ⟨g, k * 6 + 2, none⟩ v2).setCell ⟨g, k * 6 + 3, none⟩ v3).setCell ⟨g, k * 6 + 4, none⟩ v4).setCell ⟨g, k * 6 + 5, none⟩ v5) B (some ⟨g, 0, none⟩) len cap xs (k + 1) := by
  have hl : ((xs.take k).flatMap Bl.enc).length = k * 6 := by rw [flatMap_len Bl.enc_len]; simp; omega
  replace hown : w.ownsRow B 42 6 (.slice (some ⟨g, 0, none⟩) len cap) len (((xs.take k).flatMap Bl.enc) ++ y0 :: (y1 :: y2 :: y3 :: y4 :: y5 :: rest)) := by simpa using hown
  have s0 := (hown.stored (k * 6) v0).1
  rw [set_at ((xs.take k).flatMap Bl.enc) (y1 :: y2 :: y3 :: y4 :: y5 :: rest) y0 v0 (k * 6) (by simp [hl])] at s0
  have s1 := (s0.stored (k * 6 + 1) v1).1
  rw [set_at (((xs.take k).flatMap Bl.enc) ++ [v0]) (y2 :: y3 :: y4 :: y5 :: rest) y1 v1 (k * 6 + 1) (by simp [hl])] at s1
  have s2 := (s1.stored (k * 6 + 2) v2).1
  rw [set_at ((((xs.take k).flatMap Bl.enc) ++ [v0]) ++ [v1]) (y3 :: y4 :: y5 :: rest) y2 v2 (k * 6 + 2) (by simp [hl])] at s2
  have s3 := (s2.stored (k * 6 + 3) v3).1
  rw [set_at (((((xs.take k).flatMap Bl.enc) ++ [v0]) ++ [v1]) ++ [v2]) (y4 :: y5 :: rest) y3 v3 (k * 6 + 3) (by simp [hl])] at s3
  have s4 := (s3.stored (k * 6 + 4) v4).1
  rw [set_at ((((((xs.take k).flatMap Bl.enc) ++ [v0]) ++ [v1]) ++ [v2]) ++ [v3]) (y5 :: rest) y4 v4 (k * 6 + 4) (by simp [hl])] at s4
  have s5 := (s4.stored (k * 6 + 5) v5).1
  rw [set_at (((((((xs.take k).flatMap Bl.enc) ++ [v0]) ++ [v1]) ++ [v2]) ++ [v3]) ++ [v4]) (rest) y5 v5 (k * 6 + 5) (by simp [hl])] at s5
  refine ⟨rest, ?_, hr⟩
  rw [ht, List.flatMap_append, List.flatMap_cons, List.flatMap_nil, hv, List.append_nil]
  simpa using s5

end Go.Proofs.YtegnlijgjcfmlaaDoor
