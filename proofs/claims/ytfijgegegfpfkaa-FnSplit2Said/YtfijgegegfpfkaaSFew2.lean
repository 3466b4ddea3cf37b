/- The greatest first: the program's function. -/
import Derived.Test.YtfijgegegfpfkaaSFew
namespace Go.Proofs.Ytfijgegegfpfkaa
open Go.RowKit Go.Shelf Go.Lib Go.Sort
set_option linter.unusedVariables false
set_option linter.unusedSimpArgs false
theorem sw_below {nn B blk off : Nat} {dk : Array Nat} {w0 W : World} (h : SW (eI nn) w0 blk off dk W) (hB : B ≤ blk) (hs : B ≤ w0.heap.size) : Below B w0 W := by
  have hle := h.le
  obtain ⟨n, os, rfl⟩ := h
  refine ⟨rfl, rfl, rfl, hle, fun k hk => ?_⟩
  unfold sortWorld
  rw [heap_grow_old _ _ (by rw [size_putRow]; show k < w0.heap.size; omega)]
  unfold putRow mapBlock
  simp only [Array.getElem?_modify]
  rw [if_neg (by omega)]
  rfl
theorem ord_small {key : Nat → Int} {n : Nat} (h : n ≤ 1) : ordOf key n = List.range n := by
  have hp := ord_perm (key := key) n
  rcases Nat.lt_or_ge 0 n with h1 | h1
  · obtain rfl : n = 1 := by omega
    exact List.perm_singleton.1 hp
  · obtain rfl : n = 0 := by omega
    exact List.perm_nil.1 hp
theorem is_sorted {n blk off : Nat} {d' : Array Nat} {w : World} (hH : Holds (eI n) w blk off d') (hblk : blk < w.heap.size) (hz : d'.size = n) (hb : ∀ i ∈ d'.toList, i < n) (hn : n ≤ 40) : IS w w.heap.size (some ⟨blk, off, none⟩) n (d'.toList.map fun (i : Nat) => (i : Int)) := by
  refine ⟨by simp [hz], by unfold maxLen; omega, fun x hx => ?_, fun i x hx => ⟨blk, off, rfl, hblk, ?_⟩⟩
  · obtain ⟨j, hj, rfl⟩ := List.mem_map.1 hx
    have := hb j hj
    omega
  · rw [List.getElem?_map] at hx
    obtain ⟨j, hj, rfl⟩ := Option.map_eq_some_iff.1 hx
    have hlt := hb j (List.mem_of_getElem? hj)
    have hi := (List.getElem?_eq_some_iff.1 hj)
    obtain ⟨hi, hij⟩ := hi
    have hc := (hH i (by simpa using hi)).1
    rw [hc]
    have e : d'[i]! = j := by rw [getElem!_pos d' i (by simpa using hi)]; simpa using hij
    rw [e, eI, Nat.mod_eq_of_lt hlt]

theorem sw_cell {nn blk off : Nat} {dk : Array Nat} {w0 W : World} (h : SW (eI nn) w0 blk off dk W) {p : Addr} (h1 : p.block ≠ blk) (h2 : p.block < w0.heap.size) : W.cell? p = w0.cell? p := by
  obtain ⟨n, os, rfl⟩ := h
  exact sw_other h1 h2
theorem below_grow {B : Nat} {w : World} (os : Array Obj) (hB : B ≤ w.heap.size) : Below B w (grow w os) := by
  refine ⟨rfl, rfl, rfl, by rw [size_grow]; omega, fun k hk => ?_⟩
  rw [heap_grow_old _ _ (by omega)]
theorem few_order (a ao : Option Addr) (cc co Bc B0 B : Nat) (cs : List Int) (w : World) (hC : IS w B0 a cs.length cs) (hB0 : B0 ≤ B) (ho : OI w B ao cs.length co ((List.range cs.length).map fun (i : Nat) => (i : Int))) (hBc : Bc < B) (hB : B ≤ w.heap.size)
    (hbc : w.cell? ⟨Bc, 0, none⟩ = some (.slice a cs.length cc)) (h40 : cs.length ≤ 40) :
    Calls Try.prog 23 #[.iface 22 (.slice ao cs.length co), .func (.func 24) #[] #[.pointer (some ⟨Bc, 0, none⟩), .pointer (some ⟨w.heap.size, 0, none⟩)]] (w.alloc (.cells #[.slice ao cs.length co] 22)) fun e w' =>
      e = .returned (.tuple #[]) ∧ IS w' w'.heap.size ao cs.length ((ordOf (keyOf cs) cs.length).map fun (i : Nat) => (i : Int)) ∧ Below B (w.alloc (.cells #[.slice ao cs.length co] 22)) w' ∧ w'.cell? ⟨w.heap.size, 0, none⟩ = some (.slice ao cs.length co) := by
  have hBw : Below w.heap.size w (w.alloc (.cells #[.slice ao cs.length co] 22)) := (Below.refl _ _).alloc (Nat.le_refl _) _
  have hsz : (w.alloc (.cells #[.slice ao cs.length co] 22)).heap.size = w.heap.size + 1 := by simp
  have hbo : (w.alloc (.cells #[.slice ao cs.length co] 22)).cell? ⟨w.heap.size, 0, none⟩ = some (.slice ao cs.length co) := by simp
  rcases Nat.lt_or_ge 1 cs.length with h2 | h2
  · have hC' := hC.keepB hBw (Nat.le_trans hB0 hB)
    have hbc' := (hBw.cell (p := ⟨Bc, 0, none⟩) (Nat.lt_of_lt_of_le hBc hB)).trans hbc
    obtain ⟨ho1, ho2, ho3⟩ := ho
    have ho1' := ho1
    obtain ⟨q1, q2⟩ := ho1'
    rcases q2 with ⟨e0, q0⟩ | ⟨g, cap, cur, e0, hg, hh, hnc, hcm, hsz2, ht⟩
    · exfalso
      rw [List.length_map, List.length_range] at q0
      omega
    · have e1 : ao = some ⟨g, 0, none⟩ := by injection e0
      subst e1
      have hgw : g < w.heap.size := by
        rcases Nat.lt_or_ge g w.heap.size with hlt | hge
        · exact hlt
        · rw [Array.getElem?_eq_none hge] at hh; cases hh
      have ho1 : w.ownsRow B 3 1 (.slice (some ⟨g, 0, none⟩) cs.length co) cs.length (((List.range cs.length).map fun (i : Nat) => (i : Int)).map (Value.int .i64)) := by
        unfold OwnI at ho1
        rw [ho2] at ho1
        exact ho1
      have hH : Holds (eI cs.length) w g 0 (List.range cs.length).toArray := by
        intro j hj
        rw [toArray_size] at hj
        have hc := ho1.cellAt j (by simpa using hj)
        have hf := ho1.frozenAt j
        rw [Nat.zero_add]
        refine ⟨?_, hf⟩
        rw [hc, range_get _ j hj, eI, Nat.mod_eq_of_lt hj]
        simp [hj]
      have hH' : Holds (eI cs.length) (w.alloc (.cells #[.slice (some ⟨g, 0, none⟩) cs.length co] 22)) g 0 (List.range cs.length).toArray := by
        rw [alloc_eq_grow]; exact holds_grow _ w _ g 0 _ hgw hH
      have hp := few_sort a cc Bc w.heap.size g 0 co B0 cs (w.alloc (.cells #[.slice (some ⟨g, 0, none⟩) cs.length co] 22)) hC' (by omega) (by omega) (by omega) (by omega) (by omega) (by omega) hbc' hbo hH' h2 h40
      refine hp.mono ?_
      rintro e w' ⟨rfl, d', hd, hS⟩
      have hz : d'.size = cs.length := by rw [← Array.length_toList, hd, ord_len]
      refine ⟨rfl, ?_, sw_below hS hg (by omega), (sw_cell hS (p := ⟨w.heap.size, 0, none⟩) (by show w.heap.size ≠ g; omega) (by show w.heap.size < _; omega)).trans hbo⟩
      rw [← hd]
      exact is_sorted (hS.holds (by omega) hH' (by rw [hz, toArray_size])) (hS.lt (by omega)) hz (by rw [hd]; exact ord_lt _) h40
  · rw [ord_small h2]
    have hi := (OI.is ho).keep hBw
    refine (Any.sort_SliceStable_tiny Try.laysGt8 22 3 siT siE (by kernel_rfl) (by kernel_rfl) (by kernel_rfl) (by kernel_rfl) 2 (fun _ => by kernel_rfl) ao cs.length co h2 (if cs.length = 0 then 38 else 39) ?_ (.func 24) #[] _ _).mono ?_
    · clear hi ho hC hbc hBw hsz hbo
      generalize cs.length = n at *
      rcases Nat.lt_or_ge 0 n with h1 | h1
      · obtain rfl : n = 1 := by omega
        kernel_rfl
      · obtain rfl : n = 0 := by omega
        kernel_rfl
    rintro e w' ⟨rfl, os, rfl⟩
    exact ⟨rfl, hi.keep (below_grow os (Nat.le_refl _)), below_grow os (by omega), ((below_grow os (Nat.le_refl _)).cell (p := ⟨w.heap.size, 0, none⟩) (by show w.heap.size < _; omega)).trans hbo⟩

end Go.Proofs.Ytfijgegegfpfkaa
