/- Slices of integers of the call's own: appended to, marked, looked at. -/
import Derived.Test.YtafbdbefmlgioaaGreatDoorInts
import Derived.Laws.AppendOwnNone
namespace Go.Proofs.YtafbdbefmlgioaaGreatDoor
open Go.RowKit
set_option linter.unusedVariables false
set_option linter.unusedSimpArgs false

theorem OwnI.alloc {w : World} {B : Nat} {v : Value} {xs : List Int} (h : OwnI w B v xs) (o : Obj) : OwnI (w.alloc o) B v xs := World.ownsRow.alloc h o
theorem OwnI.nil (w : World) (B : Nat) : OwnI w B (.slice none 0 0) [] := World.ownsRow_nil w B _ _
theorem OwnI.made (w : World) (B : Nat) (hb : B ≤ w.heap.size) : OwnI (w.alloc (.cells #[] 3)) B (.slice (some ⟨w.heap.size, 0, none⟩) 0 0) [] :=
  World.ownsRow_made w #[] 0 hb (by simp [maxLen]) rfl
theorem new_cell0 (w : World) (v : Value) (t : TypeId) : (w.alloc (.cells #[v] t)).cell? ⟨w.heap.size, 0, none⟩ = some v := by simp [go_sem]
theorem size_alloc_le (w : World) (o : Obj) : w.heap.size ≤ (w.alloc o).heap.size := by simp
theorem grown_below {w w' : World} {B : Nat} {v : Value} {n : Nat} {xs : List Value} {e : TypeId} {size : Nat} (h : w.ownsRow B e size v n xs) (hg : w.grownBy w' v.ownBlock) (hB : B ≤ w.heap.size) : Below B w w' :=
  (Below.refl B w).grown hg hB fun k hk => (h.lt k hk).1
theorem wpList_append_int_g {ops : Array Oper} {rest : List Oper} {o : Oper} {a : Act} {Q : Exit → Act → World → Prop} {w : World} (hgd : o.guard = none) (s x : Operand)
    (ho : o.op = .call { callee := .builtin .append, args := #[s, x], argTypes := #[39, 39] }) (B : Nat) (v : Value) (xs : List Int) (hs : a.eval s = v) (hown : OwnI w B v xs)
    (g : Nat) (y : Int) (hx : a.eval x = .slice (some ⟨g, 0, none⟩) 1 1) (hy : w.cell? ⟨g, 0, none⟩ = some (.int .i64 y)) (hlen : xs.length ≤ 1099511627776) (hB : B ≤ w.heap.size)
    (K : ∀ v' w', OwnI w' B v' (xs ++ [y]) → Below B w w' → w.grownBy w' v.ownBlock → wpList Tryz.prog ops Q rest (a.put o.dst v') w') : wpList Tryz.prog ops Q (o :: rest) a w := by
  obtain ⟨i0, hi, hz0, hz1, hz2⟩ := info_parts infoInt
  refine wpList_append_own w hgd s x 39 ho B 3 i0 (.int .i64 0) 1 8 Tryz.underlying39 hi hz0 hz1 hz2 rfl (by decide) v xs.length (xs.map (Value.int .i64)) hs hown ⟨g, 0, none⟩ 1 1 [.int .i64 y] hx rfl ?_ ?_ ?_ ?_ hB ?_
  · intro j u hj
    cases j with
    | zero => simp at hj; subst hj; exact hy
    | succ j => simp at hj
  · intro u hu; simp at hu; subst hu; rfl
  · unfold maxLen; omega
  · omega
  · intro v' w' h1 h2 _
    refine K v' w' ?_ (grown_below hown h2 hB) h2
    unfold OwnI
    simpa using h1
theorem wpList_append_int {ops : Array Oper} {rest : List Oper} {o : Oper} {a : Act} {Q : Exit → Act → World → Prop} {w : World} (hgd : o.guard = none) (s x : Operand)
    (ho : o.op = .call { callee := .builtin .append, args := #[s, x], argTypes := #[39, 39] }) (B : Nat) (v : Value) (xs : List Int) (hs : a.eval s = v) (hown : OwnI w B v xs)
    (g : Nat) (y : Int) (hx : a.eval x = .slice (some ⟨g, 0, none⟩) 1 1) (hy : w.cell? ⟨g, 0, none⟩ = some (.int .i64 y)) (hlen : xs.length ≤ 1099511627776) (hB : B ≤ w.heap.size)
    (K : ∀ v' w', OwnI w' B v' (xs ++ [y]) → Below B w w' → wpList Tryz.prog ops Q rest (a.put o.dst v') w') : wpList Tryz.prog ops Q (o :: rest) a w :=
  wpList_append_int_g hgd s x ho B v xs hs hown g y hx hy hlen hB fun v' w' h1 h2 _ => K v' w' h1 h2

theorem OI.only {w w' : World} {B : Nat} {a a' : Option Addr} {len len' cap cap' : Nat} {xs : List Int} (h : OI w B a len cap xs) (hg : w.grownBy w' (Value.slice a' len' cap').ownBlock) (hn : ∀ p, a' = some p → p.block < B) : OI w' B a len cap xs := by
  refine ⟨h.1.kept hg ?_, h.2⟩
  rcases h.1.2 with ⟨hv, _⟩ | ⟨g, c, cur, hv, hgB, _⟩
  · rw [hv]; exact .inl rfl
  · right
    rw [hv]
    cases a' with
    | none => simp [Value.ownBlock]
    | some p => have := hn p rfl; simp [Value.ownBlock]; omega
theorem OI.lt {w : World} {B : Nat} {a : Option Addr} {len cap : Nat} {xs : List Int} (h : OI w B a len cap xs) : ∀ p, a = some p → p.block < w.heap.size := by
  intro p hp
  subst hp
  exact (h.1.lt p.block rfl).2
theorem OI.own_ne {w : World} {B : Nat} {a : Option Addr} {len cap : Nat} {xs : List Int} (h : OI w B a len cap xs) (hlt : ∀ p, a = some p → p.block < w.heap.size) {b : Nat} (hb : w.heap.size ≤ b) : some b ≠ (Value.slice a len cap).ownBlock := by
  cases a with
  | none => simp [Value.ownBlock]
  | some p => have := hlt p rfl; simp [Value.ownBlock]; omega
theorem OI.at_w {w : World} {B : Nat} {a : Option Addr} {len cap : Nat} {xs : List Int} (h : OI w B a len cap xs) {k : Nat} (hk : k < len) :
    ∃ g x, a = some ⟨g, 0, none⟩ ∧ B ≤ g ∧ g < w.heap.size ∧ w.cell? ⟨g, k, none⟩ = some (.int .i64 x) ∧ w.frozen? ⟨g, k, none⟩ = false ∧ (-9223372036854775808 ≤ x ∧ x ≤ 9223372036854775807) ∧ Hid (xs[k]? = some x) ∧
      (∀ y : Int, (-9223372036854775808 ≤ y ∧ y ≤ 9223372036854775807) → OI (w.setCell ⟨g, k, none⟩ (.int .i64 y)) B (some ⟨g, 0, none⟩) len cap (xs.set k y)) := by
  obtain ⟨hown, hl, hbd⟩ := h
  subst hl
  have hown' : w.ownsRow B 3 1 (.slice a xs.length cap) xs.length (xs.map (Value.int .i64)) := hown
  obtain ⟨g, rfl⟩ : ∃ g, a = some ⟨g, 0, none⟩ := by
    rcases hown'.2 with ⟨h, h0⟩ | ⟨g, _, _, h, _⟩
    · omega
    · injection h with h; exact ⟨g, h⟩
  have hgB := (hown'.lt g rfl).1
  have hgl := (hown'.lt g rfl).2
  have hcell := hown'.cellAt k (by omega)
  have hfz := hown'.frozenAt k
  refine ⟨g, xs[k], rfl, hgB, hgl, ?_, hfz, hbd _ (List.getElem_mem hk), List.getElem?_eq_getElem hk, fun y hy => ⟨?_, by simp, fun n hn => ?_⟩⟩
  · rw [hcell]; simp [List.getElem?_eq_getElem hk]
  · have := (hown'.stored k (.int .i64 y)).1
    rw [← List.map_set] at this
    unfold OwnI
    rw [List.length_set]
    exact this
  · rcases List.mem_or_eq_of_mem_set hn with h1 | h1
    · exact hbd n h1
    · rw [h1]; exact hy
theorem wpList_make_int {w : World} {ops : Array Oper} {rest : List Oper} {o : Oper} {a : Act} {Q : Exit → Act → World → Prop} (hgd : o.guard = none) (l c : Operand) (ho : o.op = Op.makeSlice 39 l c) (B n : Nat)
    (hl : a.eval l = .int .i64 (n : Int)) (hc : a.eval c = .int .i64 (n : Int)) (hn : n ≤ 1048576) (hB : B ≤ w.heap.size)
    (K : ∀ w', OI w' B (some ⟨w.heap.size, 0, none⟩) n n (List.replicate n 0) → Below w.heap.size w w' → w.heap.size < w'.heap.size → wpList Tryz.prog ops Q rest (a.put o.dst (.slice (some ⟨w.heap.size, 0, none⟩) n n)) w') : wpList Tryz.prog ops Q (o :: rest) a w := by
  obtain ⟨i0, hi, hz0, hz1, hz2⟩ := info_parts infoInt
  refine wpList_make_full w hgd l c _ ho B 3 i0 (.int .i64 0) 1 Tryz.underlying39 hi hz0 hz1 .i64 .i64 _ _ n hl hc rfl rfl (by rw [hz2]; omega) (by unfold maxLen; omega) hB ?_
  intro w1 hown hgr
  refine K w1 ⟨?_, by simp, fun x hx => ?_⟩ ((Below.refl _ _).grown hgr (Nat.le_refl _) (by simp)) (hown.lt _ rfl).2
  · rw [cells_zeros] at hown
    unfold OwnI
    rw [List.length_replicate]
    exact hown
  · have := (List.mem_replicate.1 hx).2
    omega
theorem OI.nilcap {w : World} {B : Nat} {a : Option Addr} {len cap : Nat} {xs : List Int} (h : OI w B a len cap xs) : a = none → cap = 0 := by
  rintro rfl
  rcases h.1.2 with ⟨hv, _⟩ | ⟨g, c, cur, hv, _⟩
  · injection hv
  · injection hv with h; cases h
theorem wpList_append_ints {ops : Array Oper} {rest : List Oper} {o : Oper} {a : Act} {Q : Exit → Act → World → Prop} {w : World} (hgd : o.guard = none) (s x : Operand)
    (ho : o.op = .call { callee := .builtin .append, args := #[s, x], argTypes := #[39, 39] }) (B : Nat) (v : Value) (xs : List Int) (hs : a.eval s = v) (hown : OwnI w B v xs)
    (sa : Option Addr) (sl sc : Nat) (ys : List Int) (hx : a.eval x = .slice sa sl sc) (hy : IS w w.heap.size sa sl ys) (hn : sa = none → sc = 0) (hlen : xs.length ≤ 1099511627776) (hlen2 : sl ≤ 1099511627776) (hB : B ≤ w.heap.size)
    (K : ∀ v' w', OwnI w' B v' (xs ++ ys) → Below B w w' → w.grownBy w' v.ownBlock → wpList Tryz.prog ops Q rest (a.put o.dst v') w') : wpList Tryz.prog ops Q (o :: rest) a w := by
  obtain ⟨i0, hi, hz0, hz1, hz2⟩ := info_parts infoInt
  have hyl := hy.1
  cases sa with
  | none =>
    have h0 : sl = 0 := by
      rcases Nat.eq_zero_or_pos sl with h | h
      · exact h
      · obtain ⟨b, off, y, e, _⟩ := hy.at_ h
        cases e
    have hc := hn rfl
    subst h0; subst hc
    have hy0 : ys = [] := List.eq_nil_of_length_eq_zero hyl
    subst hy0
    exact wpList_append_own_none hgd s x _ ho B 3 i0 1 Tryz.underlying39 hi v _ _ hs hown hx (K v w (by simpa using hown) (Below.refl _ _) (World.grownBy.refl _ _))
  | some ad =>
    refine wpList_append_own w hgd s x 39 ho B 3 i0 (.int .i64 0) 1 8 Tryz.underlying39 hi hz0 hz1 hz2 rfl (by decide) v xs.length (xs.map (Value.int .i64)) hs hown ad sl sc (ys.map (Value.int .i64)) hx (by simp [hyl]) ?_ ?_ ?_ ?_ hB ?_
    · intro j u hj
      rw [List.getElem?_map] at hj
      cases hyj : ys[j]? with
      | none => rw [hyj] at hj; cases hj
      | some y =>
        rw [hyj] at hj
        obtain rfl : Value.int .i64 y = u := by simpa using hj
        obtain ⟨b, off, e, _, hc⟩ := hy.2.2.2 j y hyj
        obtain rfl : ad = ⟨b, off, none⟩ := Option.some.inj e
        unfold Addr.add
        split
        · rename_i h; subst h; exact hc
        · exact hc
    · intro u hu
      obtain ⟨y, _, rfl⟩ := List.mem_map.1 hu
      rfl
    · unfold maxLen; omega
    · omega
    · intro v' w' h1 h2 _
      refine K v' w' ?_ (grown_below hown h2 hB) h2
      unfold OwnI
      simpa [hyl] using h1
theorem step_append_int {ops : Array Oper} {o : Oper} {a : Act} {K : Act → World → Prop} {Q : Exit → Act → World → Prop} {E : Prop} {w : World} (hgd : o.guard = none) (s x : Operand)
    (ho : o.op = .call { callee := .builtin .append, args := #[s, x], argTypes := #[39, 39] }) (B : Nat) (v : Value) (xs : List Int) (hs : a.eval s = v) (hown : OwnI w B v xs)
    (g : Nat) (y : Int) (hx : a.eval x = .slice (some ⟨g, 0, none⟩) 1 1) (hy : w.cell? ⟨g, 0, none⟩ = some (.int .i64 y)) (hlen : xs.length ≤ 1099511627776) (hB : B ≤ w.heap.size)
    (h : ∀ v' w', OwnI w' B v' (xs ++ [y]) → Below B w w' → K (a.put o.dst v') w') :
    if Region.wanted o (yielded ops a.tmps) = true then Oper.wp Tryz.prog o a w K Q else E := by
  have hw : Region.wanted o (yielded ops a.tmps) = true := by simp [Region.wanted, hgd]
  rw [if_pos hw]
  obtain ⟨i0, hi, hz0, hz1, hz2⟩ := info_parts infoInt
  refine wp_append_own w s x 39 ho B 3 i0 (.int .i64 0) 1 8 Tryz.underlying39 hi hz0 hz1 hz2 rfl (by decide) v xs.length (xs.map (Value.int .i64)) hs hown ⟨g, 0, none⟩ 1 1 [.int .i64 y] hx rfl ?_ ?_ ?_ ?_ hB ?_
  · intro j u hj
    cases j with
    | zero => simp at hj; subst hj; exact hy
    | succ j => simp at hj
  · intro u hu; simp at hu; subst hu; rfl
  · unfold maxLen; omega
  · omega
  · intro v' w' h1 h2 _
    refine h v' w' ?_ (grown_below hown h2 hB)
    unfold OwnI
    simpa using h1
def marks (k : Int) (n : Nat) : List Int := (List.range n).map fun (i : Nat) => k + (i : Int)
theorem marks_len (k : Int) (n : Nat) : (marks k n).length = n := by simp [marks]
theorem marks_get (k : Int) (n i : Nat) (h : i < n) : (marks k n)[i]? = some (k + i) := by simp [marks, h]
theorem marks_bd (k : Int) (n : Nat) (h0 : 0 ≤ k) (h1 : k ≤ 1099511627776) (hn : n ≤ 1099511627776) : ∀ x ∈ marks k n, -9223372036854775808 ≤ x ∧ x ≤ 9223372036854775807 := by
  intro x hx
  simp only [marks, List.mem_map, List.mem_range] at hx
  obtain ⟨i, hi, rfl⟩ := hx
  omega
theorem marks_set (k : Int) (xs : List Int) (j : Nat) (h : j < xs.length) : (marks k j ++ xs.drop j).set j (k + j) = marks k (j + 1) ++ xs.drop (j + 1) := by
  rw [List.set_append_right j (k + j) (by simp [marks_len])]
  have e : j - (marks k j).length = 0 := by simp [marks_len]
  have e2 : xs.drop j = xs[j] :: xs.drop (j + 1) := List.drop_eq_getElem_cons h
  rw [e, e2, List.set_cons_zero]
  simp [marks, List.range_succ]

set_option maxHeartbeats 800000 in
theorem markIntS_any (B : Nat) (a : Option Addr) (len cap : Nat) (xs : List Int) (k : Int) (w : World) (hs : OI w B a len cap xs) (hB : B ≤ w.heap.size) (hlen : len ≤ 1099511627776) (h0 : 0 ≤ k) (h1 : k ≤ 1099511627776) :
    Calls Tryz.prog 40 #[.slice a len cap, .int .i64 k] w fun e w' => e = .returned (.int .i64 (k + len)) ∧ OI w' B a len cap (marks k len) ∧ Below B w w' ∧ w.grownBy w' (Value.slice a len cap).ownBlock := by
  obtain ⟨hown0, hl, hbd⟩ := hs
  have Hl := Lib.hid hl
  obtain rfl : len = xs.length := hl.symm
  go_enter Tryz.func40, Tryz.ntmps40
  go_wp2
  go_loopw [1, 5] (fun c i wr => ∃ j : Nat, j ≤ xs.length ∧ i = .int .i64 j ∧ c = .int .i64 (k + j) ∧ wr.ownsRow B 3 1 (.slice a xs.length cap) xs.length ((marks k j ++ xs.drop j).map (Value.int .i64)) ∧ Below B w wr ∧ w.grownBy wr (Value.slice a xs.length cap).ownBlock) (fun _ i _ => xs.length - (intOf i).toNat)
  case atStart => exact ⟨0, Nat.zero_le _, rfl, by simp, by simpa [marks, OwnI] using hown0, Below.refl _ _, World.grownBy.refl _ _⟩
  case round =>
    obtain ⟨j, hj, rfl, rfl, hown, hb, hgr⟩ := hrel
    by_cases hlt : j < xs.length
    · obtain ⟨g, rfl⟩ : ∃ g, a = some ⟨g, 0, none⟩ := by
        rcases hown.2 with ⟨h, h0⟩ | ⟨g, _, _, h, _⟩
        · omega
        · injection h with h; exact ⟨g, h⟩
      have hgB : B ≤ g := (hown.lt g rfl).1
      have hcell := hown.cellAt j (by omega)
      obtain ⟨y, hy⟩ : ∃ y, ((marks k j ++ xs.drop j).map (Value.int .i64))[j]? = some y := ⟨_, List.getElem?_eq_getElem (by simp [marks_len]; omega)⟩
      rw [hy] at hcell
      have hfz := hown.frozenAt j
      clear hy hown0
      go_wp2
      go_roundw
      case rel =>
        refine ⟨j + 1, by omega, by go_num, val_int (by omega), ?_, hb.setCell hgB _, hgr.trans (hown.stored j (.int .i64 (k + j))).2⟩
        have := hown.stored j (.int .i64 (k + j))
        rw [← List.map_set, marks_set _ _ _ hlt] at this
        exact this.1
      case measure => simp [intOf]; omega
    · have e : j = xs.length := by omega
      subst e
      go_wp2
      go_ret
      refine ⟨rfl, ⟨?_, marks_len _ _, marks_bd _ _ h0 h1 hlen⟩, hb, hgr⟩
      unfold OwnI
      rw [marks_len]
      simpa using hown

set_option maxHeartbeats 800000 in
theorem heldIntS_any (a : Option Addr) (len cap : Nat) (k : Int) (w : World) (hs : IS w w.heap.size a len (marks k len)) (hlen : len ≤ 1099511627776) (h0 : 0 ≤ k) (h1 : k ≤ 1099511627776) :
    Calls Tryz.prog 41 #[.slice a len cap, .int .i64 k] w fun e w' => e = .returned (.int .i64 (k + len)) ∧ w = w' := by
  go_enter Tryz.func41, Tryz.ntmps41
  go_wp2
  go_loop [1, 5] (fun c i => ∃ j : Nat, j ≤ len ∧ i = .int .i64 j ∧ c = .int .i64 (k + j)) (fun _ i => len - (intOf i).toNat)
  case atStart => exact ⟨0, Nat.zero_le _, rfl, by simp⟩
  case round =>
    obtain ⟨j, hj, rfl, rfl⟩ := hrel
    by_cases hlt : j < len
    · obtain ⟨b, off, x, rfl, hb, hc, hbd, hx, _⟩ := hs.at_ hlt
      have hx' := hx.out
      rw [marks_get k len j hlt] at hx'
      obtain rfl : k + j = x := Option.some.inj hx'
      clear hx hx'
      go_wp2
      go_round
      case rel => exact ⟨j + 1, by omega, by go_num, val_int (by omega)⟩
      case measure => simp [intOf]; omega
    · have e : j = len := by omega
      subst e
      go_wp2
      go_ret
      exact ⟨rfl, rfl⟩

end Go.Proofs.YtafbdbefmlgioaaGreatDoor
