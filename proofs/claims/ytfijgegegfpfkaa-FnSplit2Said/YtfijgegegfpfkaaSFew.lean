/- The greatest first: the order found by sort.SliceStable. -/
import Derived.Test.YtfijgegegfpfkaaSymS
import Derived.Test.YtfijgegegfpfkaaSplit
import Derived.Deep.QuietTactic
namespace Go.Proofs.Ytfijgegegfpfkaa
open Go.RowKit Go.Shelf Go.Lib Go.Sort
set_option linter.unusedVariables false
set_option linter.unusedSimpArgs false

def keyOf (cs : List Int) (i : Nat) : Int := cs.getD (i % cs.length) 0
set_option maxHeartbeats 2000000 in
theorem less_few (a : Option Addr) (lc cc Bc Bo blk off c size B : Nat) (cs : List Int) (W : World) (G : Nat → Nat) (hC : IS W B a lc cs) (hbc : W.cell? ⟨Bc, 0, none⟩ = some (.slice a lc cc)) (hbo : W.cell? ⟨Bo, 0, none⟩ = some (.slice (some ⟨blk, off, none⟩) size c))
    (hc : ∀ t, t < size → W.cell? ⟨blk, off + t, none⟩ = some (.int .i64 (G t : Nat)) ∧ G t < lc) (i j : Nat) (hi : i < size) (hj : j < size) (hsz : size < 1048576) :
    Calls Try.prog 24 #[.int .i64 i, .int .i64 j, .pointer (some ⟨Bc, 0, none⟩), .pointer (some ⟨Bo, 0, none⟩)] W fun e w' => e = .returned (.bool (decide (cs.getD (G j) 0 < cs.getD (G i) 0))) ∧ ∃ q, w' = W.drewN q := by
  obtain ⟨ci, li⟩ := hc i hi
  obtain ⟨cj, lj⟩ := hc j hj
  have hlen := hC.len
  obtain ⟨b, o, x, rfl, hb, hcx, hbx, hx, -⟩ := hC.at_ li
  obtain ⟨b', o', y, hbo', hb', hcy, hby, hy, -⟩ := hC.at_ lj
  cases hbo'
  rw [show cs.getD (G i) 0 = x from getD_of hx.out, show cs.getD (G j) 0 = y from getD_of hy.out]
  clear hc hC
  go_enter Try.func24, Try.ntmps24
  go_wp2
  go_quiet (fail)
  go_wp2
  go_ret
  exact ⟨rfl, nq, rfl⟩

noncomputable def siT : TypeInfo := (Try.prog.info? 22).get (by kernel_rfl)
noncomputable def siE : TypeInfo := (Try.prog.info? 3).get (by kernel_rfl)
theorem siK (n : Nat) (h2 : 2 ≤ n) : Lib.swapperK n siE 2 = 5 := by
  have a : siE.hasPointers = false := by kernel_rfl
  have b : siE.bytes = 8 := by kernel_rfl
  have c : (n == 0) = false := by simp; omega
  have d : (n == 1) = false := by simp; omega
  simp [Lib.swapperK, a, b, c, d]
theorem sw_other {nn : Nat} {w : World} {blk off m : Nat} {dk : Array Nat} {os : Array Obj} {p : Addr} (h1 : p.block ≠ blk) (h2 : p.block < w.heap.size) : (sortWorld (eI nn) w blk off m dk os).cell? p = w.cell? p := by
  unfold sortWorld
  rw [cell?_grow _ _ _ (by rw [size_putRow]; exact h2), cell?_putRow_other (eI nn) _ blk off _ _ (Or.inl h1)]
  rfl
theorem less_reads (a : Option Addr) (cc Bc Bo blk off c B : Nat) (cs : List Int) (w : World) (hC : IS w B a cs.length cs) (hB : B ≤ blk) (hblk : blk < w.heap.size) (hBc : Bc ≠ blk) (hBc2 : Bc < w.heap.size) (hBo : Bo ≠ blk) (hBo2 : Bo < w.heap.size)
    (hbc : w.cell? ⟨Bc, 0, none⟩ = some (.slice a cs.length cc)) (hbo : w.cell? ⟨Bo, 0, none⟩ = some (.slice (some ⟨blk, off, none⟩) cs.length c)) (d : Array Nat) (hd : d.size = cs.length) (hH : Holds (eI cs.length) w blk off d) (h0 : 0 < cs.length) (h40 : cs.length ≤ 40) :
    LessReads Try.prog 24 #[.pointer (some ⟨Bc, 0, none⟩), .pointer (some ⟨Bo, 0, none⟩)] (eI cs.length) (gtB (keyOf cs)) blk off cs.length w := by
  intro m os dk hs i j hi hj
  have hH2 := holds_sortWorld (eI cs.length) w blk off m d dk os hblk hH (by omega)
  have hC2 : IS (sortWorld (eI cs.length) w blk off m dk os) B a cs.length cs := ⟨hC.1, hC.2.1, hC.2.2.1, fun i x hx => by
    obtain ⟨b, o, e, hb, hc⟩ := hC.2.2.2 i x hx
    exact ⟨b, o, e, hb, by rw [sw_other (p := ⟨b, o + i, none⟩) (by show b ≠ blk; omega) (by show b < _; omega)]; exact hc⟩⟩
  refine less_few a cs.length cc Bc Bo blk off c cs.length B cs _ (fun t => dk[t]! % cs.length) hC2 ?_ ?_ (fun t ht => ⟨?_, Nat.mod_lt _ h0⟩) i j hi hj (by omega)
  · rw [sw_other (p := ⟨Bc, 0, none⟩) hBc hBc2]; exact hbc
  · rw [sw_other (p := ⟨Bo, 0, none⟩) hBo hBo2]; exact hbo
  · exact (hH2 t (by omega)).1
theorem few_sort (a : Option Addr) (cc Bc Bo blk off c B : Nat) (cs : List Int) (w : World) (hC : IS w B a cs.length cs) (hB : B ≤ blk) (hblk : blk < w.heap.size) (hBc : Bc ≠ blk) (hBc2 : Bc < w.heap.size) (hBo : Bo ≠ blk) (hBo2 : Bo < w.heap.size)
    (hbc : w.cell? ⟨Bc, 0, none⟩ = some (.slice a cs.length cc)) (hbo : w.cell? ⟨Bo, 0, none⟩ = some (.slice (some ⟨blk, off, none⟩) cs.length c)) (hH : Holds (eI cs.length) w blk off (List.range cs.length).toArray) (h2 : 2 ≤ cs.length) (h40 : cs.length ≤ 40) :
    Calls Try.prog 23 #[.iface 22 (.slice (some ⟨blk, off, none⟩) cs.length c), .func (.func 24) #[] #[.pointer (some ⟨Bc, 0, none⟩), .pointer (some ⟨Bo, 0, none⟩)]] w fun e w' => e = .returned (.tuple #[]) ∧ ∃ d', d'.toList = ordOf (keyOf cs) cs.length ∧ SW (eI cs.length) w blk off d' w' := by
  have hL := less_reads a cc Bc Bo blk off c B cs w hC hB hblk hBc hBc2 hBo hBo2 hbc hbo _ (toArray_size _) hH (by omega) h40
  have hF : ∀ t u, t < u → u < (List.range cs.length).toArray.size → (List.range cs.length).toArray[t]! < (List.range cs.length).toArray[u]! := fun t u h1 h2 => by
    rw [toArray_size] at h2
    rw [range_get _ t (by omega), range_get _ u h2]; exact h1
  have heg : ∀ args w, (callFunc 24 args).run Try.prog w = .ok (.enter 24 args) w := enters_of Try.func24 (by kernel_rfl) rfl
  have hz := toArray_size cs.length
  generalize hd : (List.range cs.length).toArray = d at hF hH hz
  have hdone : ∀ d', Merged (keyOf cs) 0 cs.length d d' → d'.toList = ordOf (keyOf cs) cs.length := fun d' hm => by
    subst hd
    exact ord_of hm.1 hm.2
  rw [← hz] at hL ⊢
  have hS : ∃ f : Nat, True := ⟨0, trivial⟩
  rcases Nat.lt_or_ge 20 d.size with h20 | h20
  · refine Any.sort_SliceStable_of_stable Try.laysGt8 22 3 siT siE (by kernel_rfl) (by kernel_rfl) (by kernel_rfl) (by kernel_rfl) 2 (fun _ => by kernel_rfl) _ d.size c (by omega) 42 (by rw [siK _ (by omega)]; kernel_rfl) _ _ _ w _ ?_
    have hBd : sliceBound Try.prog 3 siE 2 (some ⟨blk, off, none⟩) d.size c = #[.slice (some ⟨blk, off, none⟩) d.size c, typeHandle Try.prog 3] := by
      unfold sliceBound; rw [if_neg (swapperK_gt _ _ _ (by omega))]
    have hW : ∃ os0, stableWorld Try.prog Try.laysGt8_ren 22 (some ⟨blk, off, none⟩) d.size c w = grow w os0 := by
      refine ⟨#[.cells #[.slice (some ⟨blk, off, none⟩) d.size c] 22, .cells #[.pointer (some ⟨Try.prog.globals.size, 22, none⟩), .pointer (some ⟨w.heap.size, 0, none⟩), .int .u64 151] (Try.laysGt8_ren.t 36)], ?_⟩
      unfold stableWorld; rw [alloc_eq_grow, alloc_eq_grow, grow_grow]; rfl
    obtain ⟨os0, hW⟩ := hW
    rw [hBd, hW]
    have hp := stable_w (nn := d.size) (keyOf cs) 24 #[.pointer (some ⟨Bc, 0, none⟩), .pointer (some ⟨Bo, 0, none⟩)] 42 #[.slice (some ⟨blk, off, none⟩) d.size c, typeHandle Try.prog 3] blk off d (grow w os0) heg (hL.grow hblk os0)
      (swapSwaps_of_literal true 42 (fun args W => run_callFunc_extern Try.func42 (by kernel_rfl) (by kernel_rfl) (by kernel_rfl) (e := Extern.ReflectliteSwapper.swap true) (by kernel_rfl) args W) 3 siE (by kernel_rfl) (by kernel_rfl) (fun _ => by kernel_rfl) (eI d.size) (fun _ => rfl) blk off d.size c)
      (holds_grow (eI d.size) w _ blk off d hblk (by rw [hz]; exact hH)) (by rw [size_grow]; omega) h20 (by omega) hF
    refine hp.mono ?_
    rintro e w' ⟨rfl, d', hm, n, os, rfl⟩
    exact ⟨rfl, d', by rw [hz]; exact hdone d' (by rw [← hz]; exact hm), n, _, by unfold sortWorld; rw [ahead_grow, putRow_grow (eI d.size) (Sort.ahead w n) _ blk off _ hblk, grow_grow]⟩
  · have hp := Any.sort_SliceStable_small Try.laysGt8 22 3 siT siE (by kernel_rfl) (by kernel_rfl) (by kernel_rfl) (by kernel_rfl) 2 (fun _ => by kernel_rfl) (by kernel_rfl) (fun _ => by kernel_rfl) (eI d.size) (fun _ => rfl) (gtB (keyOf cs)) 24 _
      heg blk off c d (by omega) h20 42 (by rw [siK _ (by omega)]; kernel_rfl) true
      (fun args W => run_callFunc_extern Try.func42 (by kernel_rfl) (by kernel_rfl) (by kernel_rfl) (e := Extern.ReflectliteSwapper.swap true) (by kernel_rfl) args W) w hL (by rw [hz]; exact hH) hblk
    refine hp.mono ?_
    rintro e w' ⟨rfl, n, os, rfl⟩
    refine ⟨rfl, _, ?_, n, os, rfl⟩
    rw [hz]
    refine hdone _ ?_
    rw [← hz]
    exact srt_ins d 0 d.size (Nat.le_refl _) (Nat.zero_le _) fun t u _ h2 h3 => hF t u h2 h3

end Go.Proofs.Ytfijgegegfpfkaa
