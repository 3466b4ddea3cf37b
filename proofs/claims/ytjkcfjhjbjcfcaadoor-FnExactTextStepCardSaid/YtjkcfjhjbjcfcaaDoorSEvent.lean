/- Slices of Event: the laws' own functions. By a program of the prover. -/
import Derived.Test.YtjkcfjhjbjcfcaaDoorOwn
import Derived.Test.YtjkcfjhjbjcfcaaDoorFlat
namespace Go.Proofs.YtjkcfjhjbjcfcaaDoor
open Go.RowKit
set_option linter.unusedVariables false
set_option linter.unusedSimpArgs false

structure Ev where
  kind : Int
  key : Int
  ch : Int
  to : Int
  amt : Int
  fee : Int
  yes : Bool
def Ev.enc (r : Ev) : List Value := [.int .i64 r.kind, .int .i64 r.key, .int .i64 r.ch, .int .i64 r.to, .int .i64 r.amt, .int .i64 r.fee, .bool r.yes]
def Ev.ok (r : Ev) : Prop := I64 r.kind ∧ I64 r.key ∧ I64 r.ch ∧ I64 r.to ∧ I64 r.amt ∧ I64 r.fee ∧ True
theorem Ev.enc_len (r : Ev) : r.enc.length = 7 := rfl
abbrev EvS := FS Ev.enc 7 Ev.ok

theorem infoEvent : (Tryd.prog.info? 23).map (fun i => (i.zero, i.size, i.bytes)) = some (some (.agg #[.int .i64 0, .int .i64 0, .int .i64 0, .int .i64 0, .int .i64 0, .int .i64 0, .bool false]), 7, 56) := by kernel_rfl
abbrev EvO := OF Ev.enc 7 Ev.ok 23

theorem EvS.cells {w : World} {B : Nat} {a : Option Addr} {len : Nat} {xs : List Ev} (h : EvS w B a len xs) {k : Nat} (hk : k < len) :
    ∃ g off x0 x1 x2 x3 x4 x5 x6, a = some ⟨g, off, none⟩ ∧ g < B ∧ w.cell? ⟨g, off + k * 7, none⟩ = some (.int .i64 x0) ∧ w.cell? ⟨g, off + k * 7 + 1, none⟩ = some (.int .i64 x1) ∧ w.cell? ⟨g, off + k * 7 + 2, none⟩ = some (.int .i64 x2) ∧ w.cell? ⟨g, off + k * 7 + 3, none⟩ = some (.int .i64 x3) ∧ w.cell? ⟨g, off + k * 7 + 4, none⟩ = some (.int .i64 x4) ∧ w.cell? ⟨g, off + k * 7 + 5, none⟩ = some (.int .i64 x5) ∧ w.cell? ⟨g, off + k * 7 + 6, none⟩ = some (.bool x6) ∧
      I64 x0 ∧ I64 x1 ∧ I64 x2 ∧ I64 x3 ∧ I64 x4 ∧ I64 x5 ∧ True ∧ Hid (xs[k]? = some ⟨x0, x1, x2, x3, x4, x5, x6⟩) ∧ Hid (xs.take (k + 1) = xs.take k ++ [⟨x0, x1, x2, x3, x4, x5, x6⟩]) := by
  obtain ⟨g, off, r, e, hb, hc, hok, hx, ht⟩ := h.at_ hk
  obtain ⟨x0, x1, x2, x3, x4, x5, x6⟩ := r
  obtain ⟨o0, o1, o2, o3, o4, o5, o6⟩ := hok
  exact ⟨g, off, x0, x1, x2, x3, x4, x5, x6, e, hb, hc 0 _ rfl, hc 1 _ rfl, hc 2 _ rfl, hc 3 _ rfl, hc 4 _ rfl, hc 5 _ rfl, hc 6 _ rfl, o0, o1, o2, o3, o4, o5, o6, hx, ht⟩

/-- what is owned while the first k elements are written: they, and as many cells more as are wanted -/
def EvPart (w : World) (B : Nat) (a : Option Addr) (len cap : Nat) (xs : List Ev) (k : Nat) : Prop :=
  ∃ rest : List Value, w.ownsRow B 23 7 (.slice a len cap) len ((xs.take k).flatMap Ev.enc ++ rest) ∧ rest.length = (len - k) * 7
theorem EvPart.open_ {w : World} {B : Nat} {a : Option Addr} {len cap : Nat} {xs : List Ev} {k : Nat} (h : EvPart w B a len cap xs k) (hx : xs.length = len) (hk : k < len) :
    ∃ g y0 y1 y2 y3 y4 y5 y6 rest, a = some ⟨g, 0, none⟩ ∧ B ≤ g ∧ rest.length = (len - (k + 1)) * 7 ∧ w.ownsRow B 23 7 (.slice (some ⟨g, 0, none⟩) len cap) len ((xs.take k).flatMap Ev.enc ++ [y0, y1, y2, y3, y4, y5, y6] ++ rest) ∧
      w.cell? ⟨g, k * 7, none⟩ = some y0 ∧ w.cell? ⟨g, k * 7 + 1, none⟩ = some y1 ∧ w.cell? ⟨g, k * 7 + 2, none⟩ = some y2 ∧ w.cell? ⟨g, k * 7 + 3, none⟩ = some y3 ∧ w.cell? ⟨g, k * 7 + 4, none⟩ = some y4 ∧ w.cell? ⟨g, k * 7 + 5, none⟩ = some y5 ∧ w.cell? ⟨g, k * 7 + 6, none⟩ = some y6 ∧ ∀ o, w.frozen? ⟨g, o, none⟩ = false := by
  obtain ⟨rest, hown, hr⟩ := h
  obtain ⟨g, rfl, hg⟩ := block_ne w hown (by omega)
  obtain ⟨y0, y1, y2, y3, y4, y5, y6, r', rfl⟩ : ∃ y0 y1 y2 y3 y4 y5 y6 r', rest = y0 :: y1 :: y2 :: y3 :: y4 :: y5 :: y6 :: r' := by
    have : 7 ≤ rest.length := by omega
    match rest, this with
    | y0 :: y1 :: y2 :: y3 :: y4 :: y5 :: y6 :: r', _ => exact ⟨y0, y1, y2, y3, y4, y5, y6, r', rfl⟩
  have hl : ((xs.take k).flatMap Ev.enc).length = k * 7 := by rw [flatMap_len Ev.enc_len]; simp; omega
  have hkk : k * 7 + 7 ≤ len * 7 := by omega
  have get : ∀ j v, [y0, y1, y2, y3, y4, y5, y6][j]? = some v → w.cell? ⟨g, k * 7 + j, none⟩ = some v := by
    intro j v hv
    have hj : j < 7 := (List.getElem?_eq_some_iff.1 hv).1
    rw [hown.cellAt (k * 7 + j) (by omega), List.getElem?_append_right (by omega), hl, show k * 7 + j - k * 7 = j by omega]
    rw [show (y0 :: y1 :: y2 :: y3 :: y4 :: y5 :: y6 :: r') = [y0, y1, y2, y3, y4, y5, y6] ++ r' from rfl, List.getElem?_append_left (by simpa using hj)]
    exact hv
  refine ⟨g, y0, y1, y2, y3, y4, y5, y6, r', rfl, hg, ?_, by simpa using hown, get 0 _ rfl, get 1 _ rfl, get 2 _ rfl, get 3 _ rfl, get 4 _ rfl, get 5 _ rfl, get 6 _ rfl, fun o => hown.frozenAt o⟩
  simp at hr
  omega

set_option maxRecDepth 10000 in
theorem EvPart.put {w : World} {B g len cap : Nat} {xs : List Ev} {k : Nat} {r : Ev} {y0 y1 y2 y3 y4 y5 y6 v0 v1 v2 v3 v4 v5 v6 : Value} {rest : List Value} (hown : w.ownsRow B 23 7 (.slice (some ⟨g, 0, none⟩) len cap) len ((xs.take k).flatMap Ev.enc ++ [y0, y1, y2, y3, y4, y5, y6] ++ rest)) (hr : rest.length = (len - (k + 1)) * 7) (hx : xs.length = len) (hk : k < len)
    (ht : xs.take (k + 1) = xs.take k ++ [r]) (hv : r.enc = [v0, v1, v2, v3, v4, v5, v6]) : EvPart (((((((w.setCell ⟨g, k * 7, none⟩ v0).setCell ⟨g, k * 7 + 1, none⟩ v1).setCell ⟨g, k * 7 + 2, none⟩ v2).setCell ⟨g, k * 7 + 3, none⟩ v3).setCell ⟨g, k * 7 + 4, none⟩ v4).setCell ⟨g, k * 7 + 5, none⟩ v5).setCell ⟨g, k * 7 + 6, none⟩ v6) B (some ⟨g, 0, none⟩) len cap xs (k + 1) := by
  have hl : ((xs.take k).flatMap Ev.enc).length = k * 7 := by rw [flatMap_len Ev.enc_len]; simp; omega
  replace hown : w.ownsRow B 23 7 (.slice (some ⟨g, 0, none⟩) len cap) len (((xs.take k).flatMap Ev.enc) ++ y0 :: (y1 :: y2 :: y3 :: y4 :: y5 :: y6 :: rest)) := by simpa using hown
  have s0 := (hown.stored (k * 7) v0).1
  rw [set_at ((xs.take k).flatMap Ev.enc) (y1 :: y2 :: y3 :: y4 :: y5 :: y6 :: rest) y0 v0 (k * 7) (by simp [hl])] at s0
  have s1 := (s0.stored (k * 7 + 1) v1).1
  rw [set_at (((xs.take k).flatMap Ev.enc) ++ [v0]) (y2 :: y3 :: y4 :: y5 :: y6 :: rest) y1 v1 (k * 7 + 1) (by simp [hl])] at s1
  have s2 := (s1.stored (k * 7 + 2) v2).1
  rw [set_at ((((xs.take k).flatMap Ev.enc) ++ [v0]) ++ [v1]) (y3 :: y4 :: y5 :: y6 :: rest) y2 v2 (k * 7 + 2) (by simp [hl])] at s2
  have s3 := (s2.stored (k * 7 + 3) v3).1
  rw [set_at (((((xs.take k).flatMap Ev.enc) ++ [v0]) ++ [v1]) ++ [v2]) (y4 :: y5 :: y6 :: rest) y3 v3 (k * 7 + 3) (by simp [hl])] at s3
  have s4 := (s3.stored (k * 7 + 4) v4).1
  rw [set_at ((((((xs.take k).flatMap Ev.enc) ++ [v0]) ++ [v1]) ++ [v2]) ++ [v3]) (y5 :: y6 :: rest) y4 v4 (k * 7 + 4) (by simp [hl])] at s4
  have s5 := (s4.stored (k * 7 + 5) v5).1
  rw [set_at (((((((xs.take k).flatMap Ev.enc) ++ [v0]) ++ [v1]) ++ [v2]) ++ [v3]) ++ [v4]) (y6 :: rest) y5 v5 (k * 7 + 5) (by simp [hl])] at s5
  have s6 := (s5.stored (k * 7 + 6) v6).1
  rw [set_at ((((((((xs.take k).flatMap Ev.enc) ++ [v0]) ++ [v1]) ++ [v2]) ++ [v3]) ++ [v4]) ++ [v5]) (rest) y6 v6 (k * 7 + 6) (by simp [hl])] at s6
  refine ⟨rest, ?_, hr⟩
  rw [ht, List.flatMap_append, List.flatMap_cons, List.flatMap_nil, hv, List.append_nil]
  simpa using s6

end Go.Proofs.YtjkcfjhjbjcfcaaDoor
