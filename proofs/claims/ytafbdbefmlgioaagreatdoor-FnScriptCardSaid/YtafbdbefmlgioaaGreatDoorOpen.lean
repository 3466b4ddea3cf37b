/- Arguments opened: a struct of one-cell fields by value; a slice of integers as a row. -/
import Derived.Test.YtafbdbefmlgioaaGreatDoorRows
import Derived.WalkKit
import Derived.ProofKit
import Derived.OpenShut
import Derived.ShutString
import Derived.ChangeOld
import Derived.Below
import Derived.Lib.SmallJoins
import Derived.Deep.Fields
import Derived.Deep.Slices
import Derived.Test.YtafbdbefmlgioaaGreatDoorBase
namespace Go.Proofs.YtafbdbefmlgioaaGreatDoor
open Go.ChangeShapes Go.WideShapes Go.ChangeAt Go.RowKit Go.Joins Go.Deep
set_option linter.unusedVariables false
set_option linter.unusedSimpArgs false

theorem list1 {α : Type} {l : List α} {a0 : α} (hl : l.length = 1) (h0 : l[0]? = some a0) : l = [a0] := by
  match l, hl with
  | [x0], _ => simp_all
theorem list2 {α : Type} {l : List α} {a0 a1 : α} (hl : l.length = 2) (h0 : l[0]? = some a0) (h1 : l[1]? = some a1) : l = [a0, a1] := by
  match l, hl with
  | [x0, x1], _ => simp_all
theorem list3 {α : Type} {l : List α} {a0 a1 a2 : α} (hl : l.length = 3) (h0 : l[0]? = some a0) (h1 : l[1]? = some a1) (h2 : l[2]? = some a2) : l = [a0, a1, a2] := by
  match l, hl with
  | [x0, x1, x2], _ => simp_all
theorem list4 {α : Type} {l : List α} {a0 a1 a2 a3 : α} (hl : l.length = 4) (h0 : l[0]? = some a0) (h1 : l[1]? = some a1) (h2 : l[2]? = some a2) (h3 : l[3]? = some a3) : l = [a0, a1, a2, a3] := by
  match l, hl with
  | [x0, x1, x2, x3], _ => simp_all
theorem list5 {α : Type} {l : List α} {a0 a1 a2 a3 a4 : α} (hl : l.length = 5) (h0 : l[0]? = some a0) (h1 : l[1]? = some a1) (h2 : l[2]? = some a2) (h3 : l[3]? = some a3) (h4 : l[4]? = some a4) : l = [a0, a1, a2, a3, a4] := by
  match l, hl with
  | [x0, x1, x2, x3, x4], _ => simp_all
theorem list6 {α : Type} {l : List α} {a0 a1 a2 a3 a4 a5 : α} (hl : l.length = 6) (h0 : l[0]? = some a0) (h1 : l[1]? = some a1) (h2 : l[2]? = some a2) (h3 : l[3]? = some a3) (h4 : l[4]? = some a4) (h5 : l[5]? = some a5) : l = [a0, a1, a2, a3, a4, a5] := by
  match l, hl with
  | [x0, x1, x2, x3, x4, x5], _ => simp_all
theorem list7 {α : Type} {l : List α} {a0 a1 a2 a3 a4 a5 a6 : α} (hl : l.length = 7) (h0 : l[0]? = some a0) (h1 : l[1]? = some a1) (h2 : l[2]? = some a2) (h3 : l[3]? = some a3) (h4 : l[4]? = some a4) (h5 : l[5]? = some a5) (h6 : l[6]? = some a6) : l = [a0, a1, a2, a3, a4, a5, a6] := by
  match l, hl with
  | [x0, x1, x2, x3, x4, x5, x6], _ => simp_all
theorem list8 {α : Type} {l : List α} {a0 a1 a2 a3 a4 a5 a6 a7 : α} (hl : l.length = 8) (h0 : l[0]? = some a0) (h1 : l[1]? = some a1) (h2 : l[2]? = some a2) (h3 : l[3]? = some a3) (h4 : l[4]? = some a4) (h5 : l[5]? = some a5) (h6 : l[6]? = some a6) (h7 : l[7]? = some a7) : l = [a0, a1, a2, a3, a4, a5, a6, a7] := by
  match l, hl with
  | [x0, x1, x2, x3, x4, x5, x6, x7], _ => simp_all
section
variable {H : Type} {enc : TypeId × Value → H} {P : Program} {w : World} {base : Nat} {spare : Nat → Bool} {held : Bool}
theorem open_flat {r : Reach} {b0 : Nat} {t : TypeId} {fs : Array Field} {v : Value} {d : DataW H} {p : List MemPlace} (hs : P.underlying t = some (.struct fs)) (hone : oneCellFields P fs = true) (hC : P.cellsOf t = fs.size)
    (hv : Value.okWide P w r b0 t v) (h : DataW.Trod enc P w base spare held t v d p) :
    ∃ (cs : List Value), v = .agg cs.toArray ∧ cs.length = fs.size ∧
      ∀ (j : Nat) (f : Field), fs[j]? = some f → ∃ (n : Nat) (c : Value) (y : DataW H × List MemPlace), cs[j]? = some c ∧ DataW.trod enc P w base spare held n f.type [c] = some y := by
  obtain ⟨cs, rfl, hsz⟩ := okWide_struct hs hv
  obtain ⟨l⟩ := cs
  have hl : l.length = fs.size := by have := hsz.trans hC; simpa using this
  obtain ⟨fuel, hf⟩ := h
  obtain ⟨xs, n, _, _, _, hlen, hg⟩ := DataW.trod_struct hs hf
  refine ⟨l, rfl, hl, fun j f hj => ?_⟩
  obtain ⟨o, k⟩ := hone_of hone j f hj
  have hjl : j < fs.size := (Array.getElem?_eq_some_iff.1 hj).1
  have h1 := hg j f hj
  rw [o, k] at h1
  have e1 : (l.drop j).take 1 = [l[j]'(by omega)] := by
    rw [List.drop_eq_getElem_cons (by omega)]
    rfl
  have e2 : xs[j]? = some (xs[j]'(by omega)) := List.getElem?_eq_getElem (by omega)
  simp only [Value.cells] at h1
  rw [e1, e2] at h1
  exact ⟨n, _, _, List.getElem?_eq_getElem (by omega), h1⟩
theorem open_ints_seq {t e : TypeId} {a : Option Addr} {len cap : Nat} {d : DataW H} {p : List MemPlace} (ht : P.underlying t = some (.slice e)) (he : P.underlying e = some (.int .i64)) (hc : P.cellsOf e = 1)
    (h : DataW.Trod enc P w base (fun _ => true) held t (.slice a len cap) d p) : ∃ xs, IS w w.heap.size a len xs := by
  obtain ⟨fuel, hf⟩ := h
  rcases open_ints ht he hc hf with ⟨hcs, _⟩ | ⟨x, l, c, zs, hcs, _, hl, hm, hz, _, hcell, hwz⟩
  · simp [Value.cells] at hcs
    obtain ⟨rfl, rfl, rfl⟩ := hcs
    exact ⟨[], rfl, by simp [maxLen], by simp, fun i x h => by simp at h⟩
  · simp [Value.cells] at hcs
    obtain ⟨rfl, rfl, rfl⟩ := hcs
    simp at hz
    have hcell' : ∀ i, i < zs.length → w.cell? (x.add i) = some (.int .i64 (zs.getD i 0)) := hcell
    refine ⟨zs.take len, by simp; omega, Nat.le_trans hl hm, fun n hn => ?_, fun i y hy => ?_⟩
    · have := hwz n (List.mem_of_mem_take hn)
      exact i64_bd this
    · obtain ⟨hi, hy'⟩ := List.getElem?_eq_some_iff.1 hy
      have hi' : i < len := by simp at hi; omega
      obtain ⟨b, off, rfl, hc'⟩ := ints_at hcell' (by omega)
      refine ⟨b, off, rfl, ?_, ?_⟩
      · have h0 := hc' 0 (by omega)
        unfold World.cell? at h0
        rcases Nat.lt_or_ge b w.heap.size with hlt | hge
        · exact hlt
        · simp [Array.getElem?_eq_none hge] at h0
      · rw [hc' i (by omega)]
        simp at hy'
        simp [List.getD_eq_getElem?_getD, List.getElem?_eq_getElem (show i < zs.length by omega), hy']
end
section
variable {H : Type} {enc : TypeId × Value → H} {P : Program} {w : World} {base : Nat} {held : Bool}
theorem cell_lt {w : World} {b o : Nat} {v : Value} (h : w.cell? ⟨b, o, none⟩ = some v) : b < w.heap.size := by
  rcases Nat.lt_or_ge b w.heap.size with hlt | hge
  · exact hlt
  · simp [World.cell?, Array.getElem?_eq_none hge] at h
/-- a slice of structs of one-cell fields that came in -/
theorem open_flats {t e : TypeId} {fs : Array Field} {a : Option Addr} {len cap : Nat} {d : DataW H} {p : List MemPlace} (ht : P.underlying t = some (.slice e)) (he : P.underlying e = some (.struct fs)) (hone : oneCellFields P fs = true) (hC : P.cellsOf e = fs.size) (hpos : 0 < fs.size)
    (h : DataW.Trod enc P w base (fun _ => true) held t (.slice a len cap) d p) : len ≤ cap ∧ cap ≤ maxLen ∧ ∀ i, i < len → ∃ (b off : Nat) (cs : List Value), a = some ⟨b, off, none⟩ ∧ b < w.heap.size ∧ cs.length = fs.size ∧ (∀ j v, cs[j]? = some v → w.cell? ⟨b, off + i * fs.size + j, none⟩ = some v) ∧
      ∀ (j : Nat) (f : Field), fs[j]? = some f → ∃ (n : Nat) (c : Value) (y : DataW H × List MemPlace), cs[j]? = some c ∧ DataW.trod enc P w base (fun _ => true) held n f.type [c] = some y := by
  obtain ⟨fuel, hf⟩ := h
  rcases Go.Deep.open_slice ht hf with ⟨hcs, _⟩ | ⟨a', len', cap', m, n, D, Pl, hcs, _, hl, hm, hmm, _, hi⟩
  · simp [Value.cells] at hcs
    obtain ⟨rfl, rfl, rfl⟩ := hcs
    exact ⟨Nat.le_refl _, by simp [maxLen], fun i h => by omega⟩
  · simp [Value.cells] at hcs
    obtain ⟨rfl, rfl, rfl⟩ := hcs
    simp at hmm
    subst hmm
    refine ⟨hl, hm, fun i hlt => ?_⟩
    obtain ⟨cs, hc, htr⟩ := hi i (by omega)
    rw [hC] at hc
    obtain ⟨_, hcl, hat⟩ := World.cells?_some hc
    obtain ⟨xs, n', _, _, _, hlen, hg⟩ := DataW.trod_struct he htr
    have hspot : a'.spot = none := by
      have h0 := hat 0 hpos
      rw [List.getElem?_eq_getElem (by omega)] at h0
      rw [Go.Deep.add_add] at h0
      have hs := World.cell?_spot h0
      unfold Addr.add at hs
      split at hs
      · exact hs
      · rename_i hne
        have h00 := hi 0 (by omega)
        obtain ⟨cs0, hc0, _⟩ := h00
        rw [hC] at hc0
        obtain ⟨_, hcl0, hat0⟩ := World.cells?_some hc0
        have h1 := hat0 0 hpos
        rw [List.getElem?_eq_getElem (by omega)] at h1
        have hs1 := World.cell?_spot h1
        simpa [Addr.add] using hs1
    obtain ⟨b, off, spot⟩ := a'
    simp only at hspot
    subst hspot
    have hcell : ∀ j v, cs[j]? = some v → w.cell? ⟨b, off + i * fs.size + j, none⟩ = some v := by
      intro j v hv
      have hj : j < fs.size := by have := (List.getElem?_eq_some_iff.1 hv).1; omega
      have := hat j hj
      rw [Go.Deep.add_add, Go.WideShapes.add_plain, hv] at this
      rw [← this, Nat.add_assoc]
    refine ⟨b, off, cs, rfl, cell_lt (hcell 0 _ (List.getElem?_eq_getElem (by omega))), hcl, hcell, fun j f hj => ?_⟩
    obtain ⟨o, k⟩ := hone_of hone j f hj
    have hjl : j < fs.size := (Array.getElem?_eq_some_iff.1 hj).1
    have h1 := hg j f hj
    rw [o, k] at h1
    have e1 : (cs.drop j).take 1 = [cs[j]'(by omega)] := by
      rw [List.drop_eq_getElem_cons (by omega)]
      rfl
    have e2 : xs[j]? = some (xs[j]'(by omega)) := List.getElem?_eq_getElem (by omega)
    rw [e1, e2] at h1
    exact ⟨n', _, _, List.getElem?_eq_getElem (by omega), h1⟩
/-- elements one by one make a list -/
theorem fs_of {α : Type} {en : α → List Value} {sz : Nat} {ok : α → Prop} {a : Option Addr} (len : Nat) (hl : len ≤ maxLen)
    (h : ∀ i, i < len → ∃ (b off : Nat) (x : α), a = some ⟨b, off, none⟩ ∧ b < w.heap.size ∧ ok x ∧ ∀ j v, (en x)[j]? = some v → w.cell? ⟨b, off + i * sz + j, none⟩ = some v) : ∃ xs, FS en sz ok w w.heap.size a len xs := by
  induction len with
  | zero => exact ⟨[], FS.nil _ _ _⟩
  | succ n ih =>
    obtain ⟨xs, h1, h2, h3, h4⟩ := ih (by omega) fun i hi => h i (by omega)
    obtain ⟨b, off, x, e, hb, hx, hc⟩ := h n (by omega)
    refine ⟨xs ++ [x], by simp [h1], hl, ?_, fun i y hy => ?_⟩
    · intro y hy
      simp at hy
      rcases hy with hy | rfl
      · exact h3 y hy
      · exact hx
    · rcases Nat.lt_or_ge i n with hlt | hge
      · rw [List.getElem?_append_left (by omega)] at hy
        exact h4 i y hy
      · have hi : i = n := by have := (List.getElem?_eq_some_iff.1 hy).1; simp at this; omega
        subst hi
        rw [List.getElem?_append_right (by omega), h1, Nat.sub_self] at hy
        simp at hy
        subst hy
        exact ⟨b, off, e, hb, hc⟩
end
end Go.Proofs.YtafbdbefmlgioaaGreatDoor
