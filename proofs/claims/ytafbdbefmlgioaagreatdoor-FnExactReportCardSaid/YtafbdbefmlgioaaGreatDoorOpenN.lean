/- A slice of bytes that came in, opened as a row. -/
import Derived.Test.YtafbdbefmlgioaaGreatDoorCur
import Derived.Test.YtafbdbefmlgioaaGreatDoorOpen
import Derived.Test.YtafbdbefmlgioaaGreatDoorWO
namespace Go.Proofs.YtafbdbefmlgioaaGreatDoor
open Go.ChangeShapes Go.WideShapes Go.ChangeAt Go.RowKit Go.Joins Go.Deep
set_option linter.unusedVariables false
set_option linter.unusedSimpArgs false

section
variable {H : Type} {enc : TypeId × Value → H} {P : Program} {w : World} {base : Nat} {spare : Nat → Bool} {held : Bool}
theorem u8_bd {n : Int} (h : (Lit.int .u8 n).wf = true) : 0 ≤ n ∧ n ≤ 255 := by
  simp only [Lit.wf, Bool.and_eq_true, decide_eq_true_eq] at h
  exact h
theorem open_bytes_seq {t e : TypeId} {a : Option Addr} {len cap : Nat} {d : DataW H} {p : List MemPlace} (ht : P.underlying t = some (.slice e)) (he : P.underlying e = some (.int .u8)) (hc : P.cellsOf e = 1)
    (h : DataW.Trod enc P w base (fun _ => true) held t (.slice a len cap) d p) : ∃ xs, Bs w w.heap.size a len xs := by
  obtain ⟨fuel, hf⟩ := h
  rcases open_ints ht he hc hf with ⟨hcs, _⟩ | ⟨x, l, c, zs, hcs, _, hl, hm, hz, _, hcell, hwz⟩
  · simp [Value.cells] at hcs
    obtain ⟨rfl, rfl, rfl⟩ := hcs
    exact ⟨[], rfl, by simp [maxLen], by simp, fun i x h => by simp at h⟩
  · simp [Value.cells] at hcs
    obtain ⟨rfl, rfl, rfl⟩ := hcs
    simp at hz
    have hcell' : ∀ i, i < zs.length → w.cell? (x.add i) = some (.int .u8 (zs.getD i 0)) := hcell
    refine ⟨zs.take len, by simp; omega, Nat.le_trans hl hm, fun n hn => ?_, fun i y hy => ?_⟩
    · have := hwz n (List.mem_of_mem_take hn)
      exact u8_bd this
    · obtain ⟨hi, hy'⟩ := List.getElem?_eq_some_iff.1 hy
      have hi' : i < len := by simp at hi; omega
      obtain ⟨b, off, rfl, hc'⟩ := ints_at hcell' (by omega)
      refine ⟨b, off, rfl, cell_lt (hc' 0 (by omega)), fun j v hv => ?_⟩
      cases j with
      | succ j => simp at hv
      | zero =>
        simp at hv
        subst hv
        rw [Nat.mul_one, Nat.add_zero, hc' i (by omega)]
        simp at hy'
        simp [List.getD_eq_getElem?_getD, List.getElem?_eq_getElem (show i < zs.length by omega), hy']
end

/-- the cells of a type that are no structs, with their types -/
def leafs (P : Program) : Nat → TypeId → Nat → List (Nat × TypeId)
  | 0, t, o => [(o, t)]
  | n + 1, t, o => match P.underlying t with
    | some (.struct fs) => fs.toList.flatMap fun f => if f.offset + P.cellsOf f.type ≤ P.cellsOf t then leafs P n f.type (o + f.offset) else []
    | _ => [(o, t)]
theorem list_of {α : Type} {l m : List α} (hl : l.length = m.length) (h : ∀ j, j < m.length → l[j]? = m[j]?) : l = m := by
  apply List.ext_getElem?
  intro j
  rcases Nat.lt_or_ge j m.length with hj | hj
  · exact h j hj
  · rw [List.getElem?_eq_none hj, List.getElem?_eq_none (by omega)]

section
variable {H : Type} {enc : TypeId × Value → H} {P : Program} {w : World} {base : Nat} {spare : Nat → Bool} {held : Bool}
theorem leafs_trod : ∀ (n : Nat) (t : TypeId) (o fuel : Nat) (cs : List Value) (x : DataW H × List MemPlace), DataW.trod enc P w base spare held fuel t ((cs.drop o).take (P.cellsOf t)) = some x →
    ∀ j u, (j, u) ∈ leafs P n t o → ∃ m y, DataW.trod enc P w base spare held m u ((cs.drop j).take (P.cellsOf u)) = some y
  | 0, t, o, fuel, cs, x, h, j, u, hm => by
    simp [leafs] at hm
    obtain ⟨rfl, rfl⟩ := hm
    exact ⟨_, _, h⟩
  | n + 1, t, o, fuel, cs, x, h, j, u, hm => by
    unfold leafs at hm
    split at hm
    · rename_i fs ht
      obtain ⟨xs, k, _, _, _, hlen, hf⟩ := DataW.trod_struct ht h
      obtain ⟨f, hfm, hj⟩ := List.mem_flatMap.1 hm
      split at hj
      · rename_i hle
        obtain ⟨i, hi, hif⟩ := List.getElem_of_mem hfm
        have h1 := hf i f (by rw [← hif]; simp)
        have h2 : xs[i]? = some (xs[i]'(by simp at hi; omega)) := List.getElem?_eq_getElem (by simp at hi; omega)
        rw [h2] at h1
        have e : List.take (P.cellsOf f.type) (List.drop f.offset (List.take (P.cellsOf t) (List.drop o cs))) = (cs.drop (o + f.offset)).take (P.cellsOf f.type) := by
          rw [List.drop_take, List.drop_drop, List.take_take, Nat.min_eq_left (by omega)]
        rw [e] at h1
        exact leafs_trod n f.type (o + f.offset) k cs _ h1 j u hj
      · simp at hj
    · simp at hm
      obtain ⟨rfl, rfl⟩ := hm
      exact ⟨_, _, h⟩
theorem open_leafs {r : Reach} {b0 n : Nat} {t : TypeId} {fs : Array Field} {v : Value} {d : DataW H} {p : List MemPlace} {L : List (Nat × TypeId)} (hs : P.underlying t = some (.struct fs)) (hL : leafs P n t 0 = L)
    (hone : (L.all fun q => decide (P.cellsOf q.2 = 1 ∧ q.1 < P.cellsOf t)) = true) (hv : Value.okWide P w r b0 t v) (h : DataW.Trod enc P w base spare held t v d p) :
    ∃ (cs : List Value), v = .agg cs.toArray ∧ cs.length = P.cellsOf t ∧
      ∀ (j : Nat) (u : TypeId), (j, u) ∈ L → ∃ (n : Nat) (c : Value) (y : DataW H × List MemPlace), cs[j]? = some c ∧ DataW.trod enc P w base spare held n u [c] = some y := by
  obtain ⟨cs, rfl, hsz⟩ := okWide_struct hs hv
  obtain ⟨l⟩ := cs
  have hl : l.length = P.cellsOf t := by simpa using hsz
  obtain ⟨fuel, hf⟩ := h
  refine ⟨l, rfl, hl, fun j u hj => ?_⟩
  have hq := of_decide_eq_true (List.all_eq_true.1 hone _ hj)
  have hf' : DataW.trod enc P w base spare held fuel t ((l.drop 0).take (P.cellsOf t)) = some (d, p) := by
    rw [List.drop_zero, List.take_of_length_le (by omega)]
    exact hf
  obtain ⟨m, y, hy⟩ := leafs_trod n t 0 fuel l (d, p) hf' j u (by rw [hL]; exact hj)
  have hjl : j < l.length := by have := hq.2; simp only at this; omega
  rw [show P.cellsOf u = 1 from hq.1, List.drop_eq_getElem_cons hjl] at hy
  exact ⟨m, l[j], y, List.getElem?_eq_getElem hjl, hy⟩
theorem leaf_slice {u e : TypeId} {n : Nat} {c : Value} {y : DataW H × List MemPlace} (hu : P.underlying u = some (.slice e)) (h : DataW.trod enc P w base spare held n u [c] = some y) :
    ∃ a len cap, c = .slice a len cap ∧ DataW.Trod enc P w base spare held u (.slice a len cap) y.1 y.2 := by
  rcases DataW.trod_slice hu h with ⟨hc, _⟩ | ⟨a, len, cap, _, _, _, _, hc, _⟩
  · simp at hc
    subst hc
    exact ⟨_, _, _, rfl, n, h⟩
  · simp at hc
    subst hc
    exact ⟨_, _, _, rfl, n, h⟩
end

section
variable {H : Type} {enc : TypeId × Value → H} {P : Program} {w : World} {base : Nat} {held : Bool}
theorem caps_of {t e : TypeId} {a : Option Addr} {len cap : Nat} {d : DataW H} {p : List MemPlace} (ht : P.underlying t = some (.slice e))
    (h : DataW.Trod enc P w base (fun _ => true) held t (.slice a len cap) d p) : len ≤ cap ∧ (a = none → cap = 0) := by
  obtain ⟨fuel, hf⟩ := h
  rcases Go.Deep.open_slice ht hf with ⟨hcs, _⟩ | ⟨a', len', cap', m, n, D, Pl, hcs, _, hl, hm, hmm, _, hi⟩
  · simp [Value.cells] at hcs
    obtain ⟨rfl, rfl, rfl⟩ := hcs
    exact ⟨Nat.le_refl _, fun _ => rfl⟩
  · simp [Value.cells] at hcs
    obtain ⟨rfl, rfl, rfl⟩ := hcs
    exact ⟨hl, fun e => by cases e⟩
theorem open_rows {n : Nat} {t e : TypeId} {L : List (Nat × TypeId)} {fs : Array Field} {a : Option Addr} {len cap : Nat} {d : DataW H} {p : List MemPlace} (ht : P.underlying t = some (.slice e)) (he : P.underlying e = some (.struct fs)) (hL : leafs P n e 0 = L)
    (hone : (L.all fun q => decide (P.cellsOf q.2 = 1 ∧ q.1 < P.cellsOf e)) = true) (hpos : 0 < P.cellsOf e)
    (h : DataW.Trod enc P w base (fun _ => true) held t (.slice a len cap) d p) : len ≤ maxLen ∧ ∀ i, i < len → ∃ (b off : Nat) (cs : List Value), a = some ⟨b, off, none⟩ ∧ b < w.heap.size ∧ cs.length = P.cellsOf e ∧ (∀ j v, cs[j]? = some v → w.cell? ⟨b, off + i * P.cellsOf e + j, none⟩ = some v) ∧
      ∀ (j : Nat) (u : TypeId), (j, u) ∈ L → ∃ (n : Nat) (c : Value) (y : DataW H × List MemPlace), cs[j]? = some c ∧ DataW.trod enc P w base (fun _ => true) held n u [c] = some y := by
  obtain ⟨fuel, hf⟩ := h
  rcases Go.Deep.open_slice ht hf with ⟨hcs, _⟩ | ⟨a', len', cap', m, n', D, Pl, hcs, _, hl, hm, hmm, _, hi⟩
  · simp [Value.cells] at hcs
    obtain ⟨rfl, rfl, rfl⟩ := hcs
    exact ⟨by simp [maxLen], fun i h => by omega⟩
  · simp [Value.cells] at hcs
    obtain ⟨rfl, rfl, rfl⟩ := hcs
    simp at hmm
    subst hmm
    refine ⟨Nat.le_trans hl hm, fun i hlt => ?_⟩
    obtain ⟨cs, hc, htr⟩ := hi i (by omega)
    obtain ⟨_, hcl, hat⟩ := World.cells?_some hc
    have hspot : a'.spot = none := by
      have h0 := hat 0 hpos
      rw [List.getElem?_eq_getElem (by omega)] at h0
      rw [Go.Deep.add_add] at h0
      have hs := World.cell?_spot h0
      unfold Addr.add at hs
      split at hs
      · exact hs
      · rename_i hne
        have h00 := hi 0 (by omega)
        obtain ⟨cs0, hc0, _⟩ := h00
        obtain ⟨_, hcl0, hat0⟩ := World.cells?_some hc0
        have h1 := hat0 0 hpos
        rw [List.getElem?_eq_getElem (by omega)] at h1
        have hs1 := World.cell?_spot h1
        simpa [Addr.add] using hs1
    obtain ⟨b, off, spot⟩ := a'
    simp only at hspot
    subst hspot
    have hcell : ∀ j v, cs[j]? = some v → w.cell? ⟨b, off + i * P.cellsOf e + j, none⟩ = some v := by
      intro j v hv
      have hj : j < P.cellsOf e := by have := (List.getElem?_eq_some_iff.1 hv).1; omega
      have := hat j hj
      rw [Go.Deep.add_add, Go.WideShapes.add_plain, hv] at this
      rw [← this, Nat.add_assoc]
    refine ⟨b, off, cs, rfl, cell_lt (hcell 0 _ (List.getElem?_eq_getElem (by omega))), hcl, hcell, fun j u hj => ?_⟩
    have hq := of_decide_eq_true (List.all_eq_true.1 hone _ hj)
    have htr' : DataW.trod enc P w base (fun _ => true) held n' e ((cs.drop 0).take (P.cellsOf e)) = some (D i, Pl i) := by
      rw [List.drop_zero, List.take_of_length_le (by omega)]
      exact htr
    obtain ⟨m, y, hy⟩ := leafs_trod n e 0 n' cs _ htr' j u (by rw [hL]; exact hj)
    have hjl : j < cs.length := by have := hq.2; simp only at this; omega
    rw [show P.cellsOf u = 1 from hq.1, List.drop_eq_getElem_cons hjl] at hy
    exact ⟨m, cs[j], y, List.getElem?_eq_getElem hjl, hy⟩
theorem vs_open {α : Type} {en : α → List Value} {sz : Nat} {ok : α → Prop} {a : Option Addr} {len cap : Nat} (hc : len ≤ cap ∧ (a = none → cap = 0)) (hl : len ≤ maxLen)
    (h : ∀ i, i < len → ∃ (b off : Nat) (x : α), a = some ⟨b, off, none⟩ ∧ b < w.heap.size ∧ ok x ∧ ∀ j v, (en x)[j]? = some v → w.cell? ⟨b, off + i * sz + j, none⟩ = some v) : ∃ xs, VS en sz ok w w.heap.size (.slice a len cap) xs := by
  obtain ⟨xs, hx⟩ := fs_of len hl h
  exact ⟨xs, a, len, cap, rfl, hc.1, hc.2, hx⟩
theorem vn_open {α β : Type} {K : Kd α β} {a : Option Addr} (len : Nat) {cap : Nat} (hc : len ≤ cap ∧ (a = none → cap = 0)) (hl : len ≤ maxLen)
    (h : ∀ i, i < len → ∃ (b off : Nat) (x : α) (u : Value), a = some ⟨b, off, none⟩ ∧ b < w.heap.size ∧ K.ok x ∧ VS K.encB K.szB K.okB w w.heap.size u (K.inn x) ∧ ∀ j v, (K.enc x u)[j]? = some v → w.cell? ⟨b, off + i * K.sz + j, none⟩ = some v) : ∃ xs, VN K w w.heap.size (.slice a len cap) xs := by
  suffices H : ∀ m, m ≤ len → ∃ xs : List α, xs.length = m ∧ (∀ x ∈ xs, K.ok x) ∧ ∀ (i : Nat) (x : α), xs[i]? = some x → ∃ b off u, a = some ⟨b, off, none⟩ ∧ b < w.heap.size ∧ VS K.encB K.szB K.okB w w.heap.size u (K.inn x) ∧ ∀ (j : Nat) (v : Value), (K.enc x u)[j]? = some v → w.cell? ⟨b, off + i * K.sz + j, none⟩ = some v by
    obtain ⟨xs, h1, h2, h3⟩ := H len (Nat.le_refl _)
    exact ⟨xs, a, len, cap, rfl, hc.1, hc.2, h1, hl, h2, h3⟩
  intro m
  induction m with
  | zero => intro _; exact ⟨[], rfl, by simp, fun i x hx => by simp at hx⟩
  | succ m ih =>
    intro hm
    obtain ⟨xs, h1, h2, h3⟩ := ih (by omega)
    obtain ⟨b, off, x, u, e, hb, hx, hu, hcl⟩ := h m (by omega)
    refine ⟨xs ++ [x], by simp [h1], ?_, fun i y hy => ?_⟩
    · intro y hy
      simp at hy
      rcases hy with hy | rfl
      · exact h2 y hy
      · exact hx
    · rcases Nat.lt_or_ge i m with hlt | hge
      · rw [List.getElem?_append_left (by omega)] at hy
        exact h3 i y hy
      · have hi : i = m := by have := (List.getElem?_eq_some_iff.1 hy).1; simp at this; omega
        subst hi
        rw [List.getElem?_append_right (by omega), h1, Nat.sub_self] at hy
        simp at hy
        subst hy
        exact ⟨b, off, u, e, hb, hu, hcl⟩
theorem open_bytes_v {t e : TypeId} {a : Option Addr} {len cap : Nat} {d : DataW H} {p : List MemPlace} (ht : P.underlying t = some (.slice e)) (he : P.underlying e = some (.int .u8)) (hc : P.cellsOf e = 1)
    (h : DataW.Trod enc P w base (fun _ => true) held t (.slice a len cap) d p) : ∃ xs, BtV w w.heap.size (.slice a len cap) xs := by
  obtain ⟨xs, hx⟩ := open_bytes_seq ht he hc h
  refine vs_open (caps_of ht h) hx.2.1 fun i hi => ?_
  obtain ⟨b, off, x, e, hb, hcell, h0, h1⟩ := Bs.at_ hx hi
  refine ⟨b, off, UInt8.ofNat x.toNat, e, hb, trivial, fun j v hv => ?_⟩
  match j, hv with
  | 0, hv =>
    simp [btE] at hv
    subst hv
    rw [Nat.mul_one, Nat.add_zero, hcell]
    congr 2
    omega
  | j + 1, hv => simp [btE] at hv
theorem open_ints_v {t e : TypeId} {a : Option Addr} {len cap : Nat} {d : DataW H} {p : List MemPlace} (ht : P.underlying t = some (.slice e)) (he : P.underlying e = some (.int .i64)) (hc : P.cellsOf e = 1)
    (h : DataW.Trod enc P w base (fun _ => true) held t (.slice a len cap) d p) : ∃ xs, InV w w.heap.size (.slice a len cap) xs := by
  obtain ⟨xs, hx⟩ := open_ints_seq ht he hc h
  refine vs_open (caps_of ht h) hx.2.1 fun i hi => ?_
  obtain ⟨b, off, x, e, hb, hcell, hbd, _⟩ := hx.at_ hi
  refine ⟨b, off, x, e, hb, hbd, fun j v hv => ?_⟩
  match j, hv with
  | 0, hv =>
    simp [inE] at hv
    subst hv
    rw [Nat.mul_one, Nat.add_zero, hcell]
  | j + 1, hv => simp [inE] at hv
end

end Go.Proofs.YtafbdbefmlgioaaGreatDoor
