/- Slices of integers: the laws' copies, comparisons, marks. -/
import Derived.Test.YtafbdbefmlgioaaGreatDoorGrew
namespace Go.Proofs.YtafbdbefmlgioaaGreatDoor
open Go.RowKit
set_option linter.unusedVariables false
set_option linter.unusedSimpArgs false

theorem infoInt : (Tryz.prog.info? 3).map (fun i => (i.zero, i.size, i.bytes)) = some (some (.int .i64 0), 1, 8) := by kernel_rfl
/-- v is nil or a slice at the head of a row of the call's own, from block B on, that holds xs -/
def OwnI (w : World) (B : Nat) (v : Value) (xs : List Int) : Prop := w.ownsRow B 3 1 v xs.length (xs.map (Value.int .i64))
/-- a slice of the call's own, with its parts -/
def OI (w : World) (B : Nat) (a : Option Addr) (len cap : Nat) (xs : List Int) : Prop :=
  OwnI w B (.slice a len cap) xs ∧ xs.length = len ∧ (∀ n ∈ xs, -9223372036854775808 ≤ n ∧ n ≤ 9223372036854775807)
theorem OwnI.is {w : World} {B : Nat} {v : Value} {xs : List Int} (h : OwnI w B v xs) (hm : ∀ n ∈ xs, -9223372036854775808 ≤ n ∧ n ≤ 9223372036854775807) : ∃ a c, v = .slice a xs.length c ∧ IS w w.heap.size a xs.length xs := by
  obtain ⟨h1, h2⟩ := h
  rcases h2 with ⟨rfl, h0⟩ | ⟨g, cap, cur, rfl, hg, hh, hnc, hcm, hsz, ht⟩
  · have : xs = [] := List.eq_nil_of_length_eq_zero h0
    subst this
    exact ⟨none, 0, rfl, rfl, by simp [maxLen], hm, fun i x hx => by simp at hx⟩
  · refine ⟨_, _, rfl, rfl, Nat.le_trans hnc hcm, hm, fun i x hx => ⟨g, 0, rfl, ?_, ?_⟩⟩
    · rcases Nat.lt_or_ge g w.heap.size with hlt | hge
      · exact hlt
      · rw [Array.getElem?_eq_none hge] at hh; cases hh
    · have hi : i < xs.length := (List.getElem?_eq_some_iff.1 hx).1
      have h3 : (cur.toList.take (xs.length * 1))[i]? = some (.int .i64 x) := by rw [ht]; simp [hx]
      rw [List.getElem?_take] at h3
      split at h3
      · simp [World.cell?, hh]
        simpa using h3
      · cases h3
theorem OI.is {w : World} {B : Nat} {a : Option Addr} {len cap : Nat} {xs : List Int} (h : OI w B a len cap xs) : IS w w.heap.size a len xs := by
  obtain ⟨h1, h2, h3⟩ := h
  obtain ⟨a', c', e, hi⟩ := h1.is h3
  injection e with e1 e2 e3
  subst e1; subst e2
  exact hi
theorem OwnI.oi {w : World} {B : Nat} {v : Value} {xs : List Int} (h : OwnI w B v xs) (hm : ∀ n ∈ xs, -9223372036854775808 ≤ n ∧ n ≤ 9223372036854775807) : ∃ a c, v = .slice a xs.length c ∧ OI w B a xs.length c xs := by
  obtain ⟨a, c, e, _⟩ := h.is hm
  subst e
  exact ⟨a, c, rfl, h, rfl, hm⟩
theorem OI.keep {w w' : World} {B : Nat} {a : Option Addr} {len cap : Nat} {xs : List Int} (h : OI w B a len cap xs) (hb : Below w.heap.size w w') : OI w' B a len cap xs :=
  ⟨h.1.kept (row := none) ⟨hb.os, hb.tape, hb.output, hb.size, fun k hk _ => hb.block k hk⟩ (by cases a <;> simp [Value.ownBlock]), h.2⟩
theorem OI.capB {w : World} {B : Nat} {a : Option Addr} {len cap : Nat} {xs : List Int} (h : OI w B a len cap xs) : len ≤ cap := by
  obtain ⟨⟨_, h2⟩, h3, _⟩ := h
  rcases h2 with ⟨_, h1⟩ | ⟨_, _, _, hv, _, _, h3', _⟩
  · omega
  · injection hv with _ _ e; omega
theorem OI.le {w : World} {B B' : Nat} {a : Option Addr} {len cap : Nat} {xs : List Int} (h : OI w B a len cap xs) (hB : B' ≤ B) : OI w B' a len cap xs := by
  obtain ⟨⟨h1, h2⟩, h3⟩ := h
  refine ⟨⟨h1, ?_⟩, h3⟩
  rcases h2 with h2 | ⟨g, cap, cur, hv, hg, hr⟩
  · exact .inl h2
  · exact .inr ⟨g, cap, cur, hv, Nat.le_trans hB hg, hr⟩
theorem cells_zeros (n : Nat) : (madeCells (Value.int .i64 0).cells (n * 1)).toList = (List.replicate n (0 : Int)).map (Value.int .i64) := by
  show (madeCells #[Value.int .i64 0] (n * 1)).toList = _
  rw [toList_madeCells_one]; simp
/-- the first k of xs, and zeros -/
def partZ (xs : List Int) (k : Nat) : List Int := xs.take k ++ List.replicate (xs.length - k) 0
theorem partZ_zero (xs : List Int) : partZ xs 0 = List.replicate xs.length 0 := by simp [partZ]
theorem partZ_all (xs : List Int) (k : Nat) (h : xs.length ≤ k) : partZ xs k = xs := by simp [partZ, List.take_of_length_le h, Nat.sub_eq_zero_of_le h]
theorem partZ_len (xs : List Int) (k : Nat) (h : k ≤ xs.length) : (partZ xs k).length = xs.length := by simp [partZ]; omega
theorem partZ_set (xs : List Int) (k : Nat) (x : Int) (h : xs[k]? = some x) : (partZ xs k).set k x = partZ xs (k + 1) := by
  have hl : k < xs.length := (List.getElem?_eq_some_iff.1 h).1
  have hx := (List.getElem?_eq_some_iff.1 h).2
  unfold partZ
  rw [List.set_append_right k x (by simp; omega), List.take_succ_eq_append_getElem hl, hx]
  have e : k - (xs.take k).length = 0 := by simp; omega
  rw [e, show xs.length - k = (xs.length - (k + 1)) + 1 by omega, List.replicate_succ]
  simp

set_option maxHeartbeats 800000 in
theorem toIntS_any (a : Option Addr) (len cap : Nat) (xs : List Int) (w : World) (hs : IS w w.heap.size a len xs) (hlen : len ≤ 1048576) : Calls Tryz.prog 28 #[.slice a len cap] w fun e w' =>
    (∃ a c, e = .returned (.slice a len c) ∧ OI w' w.heap.size a len c xs) ∧ Below w.heap.size w w' := by
  obtain ⟨i0, hi, hz0, hz1, hz2⟩ := info_parts infoInt
  go_enter Tryz.func28, Tryz.ntmps28
  go_wp2_with (at_make; refine wpList_make_full w rfl _ _ _ rfl w.heap.size 3 i0 (.int .i64 0) 1 Tryz.underlying39 hi hz0 hz1 .i64 .i64 _ _ len rfl rfl rfl rfl ?b2 ?b3 (Nat.le_refl _) ?_)
  case b2 => rw [hz2]; omega
  case b3 => unfold maxLen; omega
  intro w1 hown hgr
  have hB1 : Below w.heap.size w w1 := (Below.refl _ _).grown hgr (Nat.le_refl _) (by simp)
  have hxl : xs.length = len := hs.1
  have hown1 : w1.ownsRow w.heap.size 3 1 (.slice (some ⟨w.heap.size, 0, none⟩) len len) len ((partZ xs 0).map (Value.int .i64)) := by
    rw [toList_madeCells_one] at hown
    rw [partZ_zero, hxl]; simpa using hown
  clear hown hgr
  have Hxl := Lib.hid hxl; clear hxl
  go_wp2
  go_loopw [4] (fun i wr => ∃ k : Nat, k ≤ len ∧ i = .int .i64 k ∧ wr.ownsRow w.heap.size 3 1 (.slice (some ⟨w.heap.size, 0, none⟩) len len) len ((partZ xs k).map (Value.int .i64)) ∧ Below w.heap.size w wr) (fun i _ => len - (intOf i).toNat)
  case atStart => exact ⟨0, Nat.zero_le _, rfl, hown1, hB1⟩
  case round =>
    obtain ⟨k, hk, rfl, hown, hB⟩ := hrel
    by_cases hlt : k < len
    · obtain ⟨b, off, x, rfl, hb, hc, hbd, hx, _⟩ := (hs.keep hB).at_ hlt
      have hcell := hown.cellAt k (by omega)
      obtain ⟨y, hy⟩ : ∃ y, ((partZ xs k).map (Value.int .i64))[k]? = some y := ⟨_, List.getElem?_eq_getElem (by simp [partZ_len _ _ (show k ≤ xs.length by have := Hxl.out; omega)]; have := Hxl.out; omega)⟩
      rw [hy] at hcell
      have hfz := hown.frozenAt k
      clear hy
      go_wp2
      go_roundw
      case rel =>
        refine ⟨k + 1, by omega, by go_num, ?_, hB.setCell (Nat.le_refl _) _⟩
        have := hown.stored k (.int .i64 x)
        rw [← List.map_set, partZ_set _ _ _ hx.out] at this
        exact this.1
      case measure => simp [intOf]; omega
    · go_wp2
      go_ret
      refine ⟨⟨_, _, rfl, ?_, Hxl.out, hs.2.2.1⟩, hB⟩
      unfold OwnI
      rw [partZ_all _ _ (by have := Hxl.out; omega)] at hown
      rw [Hxl.out]; exact hown

theorem ne_at {xs ys : List Int} {k : Nat} {x y : Int} (hx : xs[k]? = some x) (hy : ys[k]? = some y) (h : x ≠ y) : xs ≠ ys := fun e => h (by rw [e, hy] at hx; exact (Option.some.inj hx).symm)
theorem take_step {xs ys : List Int} {k : Nat} {x y : Int} (h : xs.take k = ys.take k) (hx : xs.take (k + 1) = xs.take k ++ [x]) (hy : ys.take (k + 1) = ys.take k ++ [y]) (e : x = y) : xs.take (k + 1) = ys.take (k + 1) := by
  rw [hx, hy, h, e]

set_option maxHeartbeats 800000 in
theorem eqIntS_any (a : Option Addr) (len cap : Nat) (a' : Option Addr) (len' cap' : Nat) (xs ys : List Int) (w : World) (hs : IS w w.heap.size a len xs) (hs' : IS w w.heap.size a' len' ys) : Calls Tryz.prog 34 #[.slice a len cap, .slice a' len' cap'] w fun e w' =>
    e = .returned (.bool (decide (xs = ys))) ∧ Below w.heap.size w w' := by
  have hl1 := hs.len
  have hl2 := hs'.len
  by_cases hne : len = len'
  · subst hne
    go_enter Tryz.func34, Tryz.ntmps34
    go_wp2
    go_loopw [5] (fun i wr => ∃ k : Nat, k ≤ len ∧ i = .int .i64 k ∧ Hid (xs.take k = ys.take k) ∧ Below w.heap.size w wr) (fun i _ => len - (intOf i).toNat)
    case atStart => exact ⟨0, Nat.zero_le _, rfl, rfl, Below.refl _ _⟩
    case round =>
      obtain ⟨k, hk, rfl, ht, hB⟩ := hrel
      by_cases hlt : k < len
      · obtain ⟨b, off, x, rfl, hb, hc, hbd, hx, hxs⟩ := (hs.keep hB).at_ hlt
        obtain ⟨b', off', y, rfl, hb', hc', hbd', hy, hys⟩ := (hs'.keep hB).at_ hlt
        by_cases hxy : x = y
        · subst hxy
          go_wp2
          go_quiet (fail)
          go_wp2
          go_roundw
          case rel => exact ⟨k + 1, by omega, by go_num, take_step ht.out hxs.out hys.out rfl, below_drewN hB⟩
          case measure => simp [intOf]; omega
        · have hxy' : (x != y) = true := by simpa using hxy
          go_wp2
          go_quiet (fail)
          go_wp2
          go_ret
          exact ⟨ret_bool (by simp [ne_at hx.out hy.out hxy]), below_drewN hB⟩
      · go_wp2
        go_ret
        rw [hs.all (by omega), hs'.all (by omega)] at ht
        exact ⟨ret_bool (by simp [ht.out]), hB⟩
  · have hne' : ((len : Int) != (len' : Int)) = true := by simp; omega
    go_enter Tryz.func34, Tryz.ntmps34
    go_wp2
    go_ret
    exact ⟨ret_bool (by symm; simp; rintro rfl; exact hne (hs.1.symm.trans hs'.1)), Below.refl _ _⟩

end Go.Proofs.YtafbdbefmlgioaaGreatDoor
