/- Slices as values: what they read as, and copies of them. -/
import Derived.Test.YtafbdbefmlgioaaGreatDoorNest
import Derived.Test.YtafbdbefmlgioaaGreatDoorIntsW
import Derived.Test.YtafbdbefmlgioaaGreatDoorFlat
import Derived.Deep.MidRow
namespace Go.Proofs.YtafbdbefmlgioaaGreatDoor
open Go.RowKit
set_option linter.unusedVariables false
set_option linter.unusedSimpArgs false

theorem Ex.setCell {F : List Nat} {w w' : World} {b o : Nat} (h : Ex F w w') (hb : b ∈ F) (v : Value) : Ex F w (w'.setCell ⟨b, o, none⟩ v) :=
  ⟨h.os, h.tape, h.output, by simpa [World.setCell] using h.size, fun k hk hn => ((Below.heap_setCell _ _ _ _ (by intro e; exact hn (e ▸ hb))).trans (h.block k hk hn))⟩
theorem Ex.alloc {F : List Nat} {w w' : World} (h : Ex F w w') (o : Obj) : Ex F w (w'.alloc o) := h.trans (Ex.of_below (below_alloc (Below.refl _ _) o) F)
theorem Ex.drew {F : List Nat} {w w' : World} (h : Ex F w w') : Ex F w w'.drew := ⟨h.os, h.tape, h.output, h.size, h.block⟩
theorem Ex.drewN {F : List Nat} {w w' : World} {n : Nat} (h : Ex F w w') : Ex F w (w'.drewN n) := ⟨h.os, h.tape, h.output, h.size, h.block⟩
theorem Ex.via {F : List Nat} {w W w2 : World} (hb : Ex F W w2) (h : Ex F w W) : Ex F w w2 := h.trans hb

section
variable {α : Type} {enc : α → List Value} {sz : Nat} {ok : α → Prop} {E : TypeId} {w w' : World} {B B' : Nat} {v : Value} {xs : List α}
/-- the slice v reads as xs -/
def VS (enc : α → List Value) (sz : Nat) (ok : α → Prop) (w : World) (B : Nat) (v : Value) (xs : List α) : Prop :=
  ∃ (a : Option Addr) (n c : Nat), v = .slice a n c ∧ n ≤ c ∧ (a = none → c = 0) ∧ FS enc sz ok w B a n xs
theorem VS.keepB (h : VS enc sz ok w B v xs) (hb : Below B' w w') (hB : B ≤ B') : VS enc sz ok w' B v xs := by
  obtain ⟨a, n, c, e, h1, h2, h3⟩ := h
  exact ⟨a, n, c, e, h1, h2, h3.keepB hb hB⟩
theorem VS.mono (h : VS enc sz ok w B v xs) (hB : B ≤ B') : VS enc sz ok w B' v xs := by
  obtain ⟨a, n, c, e, h1, h2, h3⟩ := h
  exact ⟨a, n, c, e, h1, h2, h3.mono hB⟩
theorem VS.keep (h : VS enc sz ok w w.heap.size v xs) (hb : Below w.heap.size w w') : VS enc sz ok w' w'.heap.size v xs := (h.keepB hb (Nat.le_refl _)).mono hb.size
theorem VS.ex {F : List Nat} (h : VS enc sz ok w B v xs) (hx : Ex F w w') (hF : ∀ k ∈ F, B ≤ k) : VS enc sz ok w' B v xs := by
  obtain ⟨a, n, c, e, h1, h2, h3⟩ := h
  exact ⟨a, n, c, e, h1, h2, hx.fs h3 hF⟩
theorem VS.nil (w : World) (B : Nat) : VS enc sz ok w B (.slice none 0 0) ([] : List α) := ⟨none, 0, 0, rfl, Nat.le_refl _, fun _ => rfl, FS.nil w B none⟩
theorem VS.oks (h : VS enc sz ok w B v xs) : ∀ x ∈ xs, ok x := by
  obtain ⟨a, n, c, e, h1, h2, h3⟩ := h
  exact h3.2.2.1
theorem OwnF.vs (henc : ∀ x, (enc x).length = sz) (h : OwnF enc sz E w B v xs) (hm : ∀ x ∈ xs, ok x) : VS enc sz ok w w.heap.size v xs := by
  have h2 := h.2
  rcases h2 with ⟨hv, h0⟩ | ⟨g, c, cur, hv, hg, hh, hnc, hcm, hr⟩
  · subst hv
    obtain rfl : xs = [] := List.eq_nil_of_length_eq_zero h0
    exact VS.nil _ _
  · subst hv
    have ho : OF enc sz ok E w B (some ⟨g, 0, none⟩) xs.length c xs := ⟨h, rfl, hm⟩
    exact ⟨_, _, _, rfl, hnc, fun e => (by cases e), OF.fs henc ho⟩
theorem OwnF.kept {F : List Nat} (h : OwnF enc sz E w B v xs) (hx : Ex F w w') (hn : ∀ k ∈ v.ownBlock.toList, k ∉ F) : OwnF enc sz E w' B v xs := row_kept h hx hn
theorem OwnF.le (h : OwnF enc sz E w B v xs) (hB : B' ≤ B) : OwnF enc sz E w B' v xs := row_mono h hB
theorem OwnF.blk (h : OwnF enc sz E w B v xs) : ∀ k ∈ v.ownBlock.toList, B ≤ k ∧ k < w.heap.size := own_lt h
theorem OwnF.drewN (h : OwnF enc sz E w B v xs) (n : Nat) : OwnF enc sz E (w.drewN n) B v xs := h
theorem OwnF.drew (h : OwnF enc sz E w B v xs) : OwnF enc sz E w.drew B v xs := h
/-- 'append(x, y...)', x the call's own, y read -/
theorem wpList_append_vs {S : TypeId} {z : Value} {nb : Nat} (info : (Tryz.prog.info? E).map (fun i => (i.zero, i.size, i.bytes)) = some (some z, sz, nb)) (hS : Tryz.prog.underlying S = some (.slice E)) (hzs : z.cells.size = sz) (hpos : 0 < sz) (hnb : nb ≤ 64)
    (henc : ∀ x, (enc x).length = sz) (hone : ∀ x, ∀ u ∈ enc x, u.oneCell' = true) {ops : Array Oper} {rest : List Oper} {o : Oper} {a : Act} {Q : Exit → Act → World → Prop} (hgd : o.guard = none) (s x : Operand)
    (ho : o.op = .call { callee := .builtin .append, args := #[s, x], argTypes := #[S, S] }) (B : Nat) (v : Value) (xs : List α) (hs : a.eval s = v) (hown : OwnF enc sz E w B v xs)
    (u : Value) (ys : List α) (hx : a.eval x = u) (hy : VS enc sz ok w w.heap.size u ys) (hlen : xs.length ≤ 1099511627) (hlen2 : ys.length ≤ 1099511627) (hB : B ≤ w.heap.size)
    (K : ∀ v' w', OwnF enc sz E w' B v' (xs ++ ys) → Below B w w' → w.grownBy w' v.ownBlock → wpList Tryz.prog ops Q rest (a.put o.dst v') w') : wpList Tryz.prog ops Q (o :: rest) a w := by
  obtain ⟨i0, hi, hz0, hz1, hz2⟩ := info_parts info
  obtain ⟨sa, sl, sc, rfl, h1, h2, hf⟩ := hy
  have hyl := hf.1
  cases sa with
  | none =>
    have hc := h2 rfl
    obtain rfl : sl = 0 := by omega
    subst hc
    obtain rfl : ys = [] := List.eq_nil_of_length_eq_zero hyl
    exact wpList_append_own_none hgd s x _ ho B E i0 sz hS hi v _ _ hs hown hx (K v w (by simpa using hown) (Below.refl _ _) (World.grownBy.refl _ _))
  | some ad =>
    refine wpList_append_own w hgd s x S ho B E i0 z sz nb hS hi hz0 hz1 hz2 hzs hpos v xs.length (xs.flatMap enc) hs hown ad sl sc (ys.flatMap enc) hx (by rw [flatMap_len henc, hyl]) ?_ ?_ ?_ ?_ hB ?_
    · intro j u hj
      have hlt : j < ys.length * sz := by have := (List.getElem?_eq_some_iff.1 hj).1; rwa [flatMap_len henc] at this
      have hq : j / sz < ys.length := Nat.div_lt_of_lt_mul (by rw [Nat.mul_comm]; exact hlt)
      have hy1 : ys[j / sz]? = some (ys[j / sz]'hq) := List.getElem?_eq_getElem hq
      have hel : (enc (ys[j / sz]'hq))[j % sz]? = some ((enc (ys[j / sz]'hq))[j % sz]'(by rw [henc]; exact Nat.mod_lt _ hpos)) := List.getElem?_eq_getElem _
      have g1 := flatMap_get henc ys (j / sz) _ (j % sz) _ hy1 hel
      rw [Nat.div_add_mod' j sz, hj] at g1
      obtain ⟨b, off, e, _, hc⟩ := hf.2.2.2 _ _ hy1
      obtain rfl : ad = ⟨b, off, none⟩ := Option.some.inj e
      have g2 := hc _ _ hel
      rw [Nat.add_assoc, Nat.div_add_mod' j sz, ← g1] at g2
      unfold Addr.add
      split
      · rename_i h0; subst h0; exact g2
      · exact g2
    · intro u hu
      obtain ⟨y, _, hy2⟩ := List.mem_flatMap.1 hu
      exact hone y u hy2
    · unfold maxLen; omega
    · have : (xs.length + sl) * nb ≤ 2199023256 * 64 := Nat.mul_le_mul (by omega) hnb
      omega
    · intro v' w' h1 h2 _
      refine K v' w' ?_ (grown_below hown h2 hB) h2
      unfold OwnF
      simpa [hyl] using h1
end

section
variable {α β : Type} {K : Kd α β} {w w' : World} {B B' : Nat} {v : Value} {xs : List α} {vs : List Value}
/-- the slice v reads as xs, whose slices too are read -/
def VN (K : Kd α β) (w : World) (B : Nat) (v : Value) (xs : List α) : Prop :=
  ∃ (a : Option Addr) (n c : Nat), v = .slice a n c ∧ n ≤ c ∧ (a = none → c = 0) ∧ xs.length = n ∧ n ≤ maxLen ∧ (∀ x ∈ xs, K.ok x) ∧
    ∀ (i : Nat) (x : α), xs[i]? = some x → ∃ b off u, a = some ⟨b, off, none⟩ ∧ b < B ∧ VS K.encB K.szB K.okB w B u (K.inn x) ∧ ∀ (j : Nat) (v : Value), (K.enc x u)[j]? = some v → w.cell? ⟨b, off + i * K.sz + j, none⟩ = some v
theorem VN.keepB (h : VN K w B v xs) (hb : Below B' w w') (hB : B ≤ B') : VN K w' B v xs := by
  obtain ⟨a, n, c, e, h1, h2, h3, h4, h5, h6⟩ := h
  refine ⟨a, n, c, e, h1, h2, h3, h4, h5, fun i x hx => ?_⟩
  obtain ⟨b, off, u, e, hlt, hu, hc⟩ := h6 i x hx
  exact ⟨b, off, u, e, hlt, hu.keepB hb hB, fun j v hv => (hb.cell (p := ⟨b, off + i * K.sz + j, none⟩) (Nat.lt_of_lt_of_le hlt hB)).trans (hc j v hv)⟩
theorem VN.mono (h : VN K w B v xs) (hB : B ≤ B') : VN K w B' v xs := by
  obtain ⟨a, n, c, e, h1, h2, h3, h4, h5, h6⟩ := h
  refine ⟨a, n, c, e, h1, h2, h3, h4, h5, fun i x hx => ?_⟩
  obtain ⟨b, off, u, e, hlt, hu, hc⟩ := h6 i x hx
  exact ⟨b, off, u, e, Nat.lt_of_lt_of_le hlt hB, hu.mono hB, hc⟩
theorem VN.keep (h : VN K w w.heap.size v xs) (hb : Below w.heap.size w w') : VN K w' w'.heap.size v xs := (h.keepB hb (Nat.le_refl _)).mono hb.size
theorem VN.ex {F : List Nat} (h : VN K w B v xs) (hx : Ex F w w') (hF : ∀ k ∈ F, B ≤ k) : VN K w' B v xs := by
  obtain ⟨a, n, c, e, h1, h2, h3, h4, h5, h6⟩ := h
  refine ⟨a, n, c, e, h1, h2, h3, h4, h5, fun i x hi => ?_⟩
  obtain ⟨b, off, u, e, hlt, hu, hc⟩ := h6 i x hi
  exact ⟨b, off, u, e, hlt, hu.ex hx hF, fun j v hv => hx.cell (hc j v hv) fun hm => by have := hF b hm; omega⟩
theorem VN.nil (w : World) (B : Nat) : VN K w B (.slice none 0 0) ([] : List α) := ⟨none, 0, 0, rfl, Nat.le_refl _, fun _ => rfl, rfl, by simp [maxLen], by simp, fun i x h => by simp at h⟩
theorem VN.oks (h : VN K w B v xs) : ∀ x ∈ xs, K.ok x := by
  obtain ⟨a, n, c, e, h1, h2, h3, h4, h5, h6⟩ := h
  exact h5
theorem ON.vn (h : ON K w B v xs vs) : VN K w w.heap.size v xs := by
  rcases h.row.2 with ⟨hv, h0⟩ | ⟨g, c, cur, hv, hg, hh, hnc, hcm, hsz, ht⟩
  · subst hv
    obtain rfl : xs = [] := List.eq_nil_of_length_eq_zero h0
    exact VN.nil _ _
  · subst hv
    refine ⟨_, _, _, rfl, hnc, fun e => (by cases e), rfl, Nat.le_trans hnc hcm, h.ok, fun i x hx => ?_⟩
    have hi : i < xs.length := (List.getElem?_eq_some_iff.1 hx).1
    have hl := h.len
    obtain ⟨u, hu⟩ : ∃ u, vs[i]? = some u := ⟨_, List.getElem?_eq_getElem (by omega)⟩
    refine ⟨g, 0, u, rfl, (h.row.lt g rfl).2, OwnF.vs K.lenB (h.inn i x u hx hu) (h.okB x (List.mem_of_getElem? hx)), fun j z hj => ?_⟩
    have hget := rowOf_get K xs vs i x _ j z hx hu hj
    have hj2 : i * K.sz + j < xs.length * K.sz := by
      have := (List.getElem?_eq_some_iff.1 hget).1
      rwa [rowOf_len K xs vs hl] at this
    have := h.row.cellAt (i * K.sz + j) hj2
    rw [hget] at this
    simpa using this
end

theorem row_setCells {B g n cap sz : Nat} {E : TypeId} : ∀ (us pre old rest : List Value) (o : Nat) (w : World), w.ownsRow B E sz (.slice (some ⟨g, 0, none⟩) n cap) n (pre ++ (old ++ rest)) → o = pre.length → old.length = us.length →
    (w.setCells g o us).ownsRow B E sz (.slice (some ⟨g, 0, none⟩) n cap) n (pre ++ (us ++ rest)) ∧ w.grownBy (w.setCells g o us) (some g)
  | [], pre, old, rest, o, w, h, _, hl => by
    obtain rfl : old = [] := List.eq_nil_of_length_eq_zero (by simpa using hl)
    exact ⟨h, World.grownBy.refl _ _⟩
  | u :: us, pre, [], rest, o, w, h, _, hl => by simp at hl
  | u :: us, pre, y :: old, rest, o, w, h, ho, hl => by
    have s := h.stored o u
    rw [List.cons_append, set_at pre (old ++ rest) y u o ho] at s
    obtain ⟨r1, r2⟩ := row_setCells us (pre ++ [u]) old rest (o + 1) (w.setCell ⟨g, o, none⟩ u) s.1 (by simp [ho]) (by simpa using hl)
    rw [World.setCells]
    exact ⟨by simpa using r1, grown_trans s.2 r2⟩
section
variable {α β : Type} {K : Kd α β} {w w' : World} {B B' : Nat} {v : Value} {xs : List α} {vs : List Value}
/-- the slice v, of which the first elements are those of xs (their slices vs), all the call's own -/
structure NP (K : Kd α β) (w : World) (B : Nat) (g n cap : Nat) (xs : List α) (vs : List Value) : Prop where
  len : vs.length = xs.length
  row : ∃ rest : List Value, rest.length = (n - xs.length) * K.sz ∧ w.ownsRow B K.E K.sz (.slice (some ⟨g, 0, none⟩) n cap) n (rowOf K xs vs ++ rest)
  ok : ∀ x ∈ xs, K.ok x
  inn : ∀ (i : Nat) (x : α) (u : Value), xs[i]? = some x → vs[i]? = some u → OwnF K.encB K.szB K.EB w B u (K.inn x)
  okB : ∀ x ∈ xs, ∀ y ∈ K.inn x, K.okB y
  nd : (blks (.slice (some ⟨g, 0, none⟩) n cap :: vs)).Nodup
variable {g n cap : Nat}
theorem NP.start {rest : List Value} (h : w.ownsRow B K.E K.sz (.slice (some ⟨g, 0, none⟩) n cap) n rest) : NP K w B g n cap ([] : List α) [] :=
  ⟨rfl, ⟨rest, by simpa using h.1, by simpa [rowOf] using h⟩, by simp, fun i x u hx => by simp at hx, by simp, by rw [blks_cons]; simp [blks, Value.ownBlock]⟩
theorem NP.lt (h : NP K w B g n cap xs vs) : ∀ k ∈ blks (.slice (some ⟨g, 0, none⟩) n cap :: vs), B ≤ k ∧ k < w.heap.size := fun k hk => by
  obtain ⟨rest, hr, hrow⟩ := h.row
  rw [blks_cons] at hk
  rcases List.mem_append.1 hk with hk | hk
  · exact own_lt hrow k hk
  · obtain ⟨u, hu, hb⟩ := List.mem_filterMap.1 hk
    obtain ⟨i, hi, rfl⟩ := List.getElem_of_mem hu
    have hl := h.len
    exact own_lt (h.inn i _ _ (List.getElem?_eq_getElem (by omega)) (List.getElem?_eq_getElem hi)) k (by rw [hb]; simp)
theorem NP.kept {F : List Nat} (h : NP K w B g n cap xs vs) (hx : Ex F w w') (hn : ∀ k ∈ blks (.slice (some ⟨g, 0, none⟩) n cap :: vs), k ∉ F) : NP K w' B g n cap xs vs := by
  obtain ⟨rest, hr, hrow⟩ := h.row
  exact ⟨h.len, ⟨rest, hr, row_kept hrow hx (fun k hk => hn k (mem_blks List.mem_cons_self hk))⟩, h.ok, fun i x u h1 h2 => row_kept (h.inn i x u h1 h2) hx (fun k hk => hn k (mem_blks (List.mem_cons_of_mem _ (List.mem_of_getElem? h2)) hk)), h.okB, h.nd⟩
theorem NP.keep (h : NP K w B g n cap xs vs) (hb : Below w.heap.size w w') : NP K w' B g n cap xs vs := h.kept (Ex.of_below hb []) (fun k _ => by simp)
theorem NP.le (h : NP K w B g n cap xs vs) (hB : B' ≤ B) : NP K w B' g n cap xs vs := by
  obtain ⟨rest, hr, hrow⟩ := h.row
  exact ⟨h.len, ⟨rest, hr, row_mono hrow hB⟩, h.ok, fun i x u h1 h2 => row_mono (h.inn i x u h1 h2) hB, h.okB, h.nd⟩
theorem NP.cells (h : NP K w B g n cap xs vs) (hk : xs.length < n) : B ≤ g ∧ g < w.heap.size ∧ (∀ j, j < K.sz → ∃ y, w.cell? ⟨g, xs.length * K.sz + j, none⟩ = some y) ∧ ∀ o, w.frozen? ⟨g, o, none⟩ = false := by
  obtain ⟨rest, hr, hrow⟩ := h.row
  refine ⟨(hrow.lt g rfl).1, (hrow.lt g rfl).2, fun j hj => ?_, fun o => hrow.frozenAt o⟩
  have h1 : xs.length * K.sz + j < n * K.sz := by
    have : (xs.length + 1) * K.sz ≤ n * K.sz := Nat.mul_le_mul_right _ hk
    rw [Nat.add_mul] at this
    omega
  exact ⟨_, (hrow.cellAt _ h1).trans (List.getElem?_eq_getElem (by rw [hrow.1]; exact h1))⟩
theorem NP.put {x : α} {u : Value} (h : NP K w B g n cap xs vs) (hk : xs.length < n) (hu : OwnF K.encB K.szB K.EB w B u (K.inn x)) (hok : K.ok x) (hkB : ∀ y ∈ K.inn x, K.okB y) (hn : ∀ k ∈ u.ownBlock.toList, k ∉ blks (.slice (some ⟨g, 0, none⟩) n cap :: vs)) :
    NP K (w.setCells g (xs.length * K.sz) (K.enc x u)) B g n cap (xs ++ [x]) (vs ++ [u]) ∧ w.grownBy (w.setCells g (xs.length * K.sz) (K.enc x u)) (some g) := by
  obtain ⟨rest, hr, hrow⟩ := h.row
  have hrl : (rowOf K xs vs).length = xs.length * K.sz := rowOf_len K xs vs h.len
  have hsz : K.sz ≤ rest.length := by
    have : 1 * K.sz ≤ (n - xs.length) * K.sz := Nat.mul_le_mul_right _ (by omega)
    omega
  have e : rest = rest.take K.sz ++ rest.drop K.sz := (List.take_append_drop _ _).symm
  rw [e] at hrow
  obtain ⟨r1, r2⟩ := row_setCells (K.enc x u) (rowOf K xs vs) (rest.take K.sz) (rest.drop K.sz) (xs.length * K.sz) w hrow hrl.symm (by rw [K.len]; simp; omega)
  have hx := Ex.of_grown r2
  have hnd := h.nd
  rw [blks_cons] at hnd
  have hd : ∀ k ∈ blks vs, k ≠ g := fun k hk e => (List.nodup_append.1 hnd).2.2 g (by simp [Value.ownBlock]) k hk e.symm
  have hug : ∀ k ∈ u.ownBlock.toList, k ≠ g := fun k hk e => hn k hk (by rw [blks_cons, e]; simp [Value.ownBlock])
  refine ⟨⟨by simp [h.len], ⟨rest.drop K.sz, ?_, ?_⟩, ?_, ?_, ?_, ?_⟩, r2⟩
  · rw [List.length_drop, hr, List.length_append, List.length_singleton, ← Nat.sub_sub, Nat.sub_mul _ 1, Nat.one_mul]
  · rw [rowOf_snoc K xs vs x u h.len, List.append_assoc]
    exact r1
  · intro y hy
    rcases List.mem_append.1 hy with hy | hy
    · exact h.ok y hy
    · simp at hy; subst hy; exact hok
  · intro i y z h1 h2
    rcases Nat.lt_or_ge i xs.length with hlt | hge
    · rw [List.getElem?_append_left hlt] at h1
      rw [List.getElem?_append_left (by have := h.len; omega)] at h2
      exact row_kept (h.inn i y z h1 h2) hx (fun k hk he => by simp at he; exact hd k (mem_blks (List.mem_of_getElem? h2) hk) he)
    · rw [List.getElem?_append_right hge] at h1
      rw [List.getElem?_append_right (by have := h.len; omega)] at h2
      have hi : i - xs.length = 0 := by
        rcases Nat.eq_zero_or_pos (i - xs.length) with h0 | h0
        · exact h0
        · rw [List.getElem?_eq_none (by simp; omega)] at h1; cases h1
      rw [hi] at h1
      rw [show i - vs.length = 0 by rw [h.len]; exact hi] at h2
      simp at h1 h2
      subst h1; subst h2
      exact row_kept hu hx (fun k hk he => by simp at he; exact hug k hk he)
  · intro y hy
    rcases List.mem_append.1 hy with hy | hy
    · exact h.okB y hy
    · simp at hy; subst hy; exact hkB
  · rw [← List.cons_append, blks_app]
    have hu1 : blks [u] = u.ownBlock.toList := by rw [blks_cons]; simp [blks]
    rw [hu1]
    refine List.nodup_append.2 ⟨h.nd, by cases u.ownBlock <;> simp, fun p hp q hq e => ?_⟩
    subst e
    exact hn p hq hp
theorem NP.done (h : NP K w B g n cap xs vs) (hn : xs.length = n) : ON K w B (.slice (some ⟨g, 0, none⟩) n cap) xs vs := by
  obtain ⟨rest, hr, hrow⟩ := h.row
  subst hn
  obtain rfl : rest = [] := List.eq_nil_of_length_eq_zero (by simpa using hr)
  rw [List.append_nil] at hrow
  exact ⟨h.len, hrow, h.ok, h.inn, h.okB, h.nd⟩
/-- an element read -/
theorem VN.at_ (h : VN K w B v xs) : ∃ (a : Option Addr) (n c : Nat), v = .slice a n c ∧ n ≤ c ∧ (a = none → c = 0) ∧ xs.length = n ∧ n ≤ maxLen ∧
    ∀ k, k < n → ∃ b off x u, a = some ⟨b, off, none⟩ ∧ b < B ∧ K.ok x ∧ VS K.encB K.szB K.okB w B u (K.inn x) ∧ (∀ (j : Nat) (v : Value), (K.enc x u)[j]? = some v → w.cell? ⟨b, off + k * K.sz + j, none⟩ = some v) ∧ Hid (xs[k]? = some x) ∧ Hid (xs.take (k + 1) = xs.take k ++ [x]) := by
  obtain ⟨a, n, c, e, h1, h2, h3, h4, h5, h6⟩ := h
  refine ⟨a, n, c, e, h1, h2, h3, h4, fun k hk => ?_⟩
  have hl : k < xs.length := by omega
  obtain ⟨b, off, u, e, hlt, hu, hc⟩ := h6 k _ (List.getElem?_eq_getElem hl)
  exact ⟨b, off, _, u, e, hlt, h5 _ (List.getElem_mem hl), hu, hc, List.getElem?_eq_getElem hl, List.take_succ_eq_append_getElem hl⟩
end

def inE (n : Int) : List Value := [.int .i64 n]
abbrev InV := VS inE 1 I64
abbrev InR := OwnF inE 1 3
theorem InV.is {w : World} {B : Nat} {a : Option Addr} {n : Nat} {xs : List Int} (h : FS inE 1 I64 w B a n xs) : IS w B a n xs :=
  ⟨h.1, h.2.1, h.2.2.1, fun i x hx => by
    obtain ⟨b, off, e, hb, hc⟩ := h.2.2.2 i x hx
    have := hc 0 _ rfl
    rw [Nat.mul_one, Nat.add_zero] at this
    exact ⟨b, off, e, hb, this⟩⟩
theorem flat_inE : ∀ l : List Int, l.flatMap inE = l.map (Value.int .i64) := fun l => by induction l with | nil => rfl | cons x l ih => rw [List.flatMap_cons, ih]; rfl
theorem OwnI.inr {w : World} {B : Nat} {v : Value} {xs : List Int} : OwnI w B v xs ↔ InR w B v xs := by
  unfold OwnI InR OwnF
  rw [flat_inE]
theorem OI.own2 {w : World} {B : Nat} {a : Option Addr} {len cap : Nat} {xs : List Int} (h : OI w B a len cap xs) : OwnF inE 1 3 w B (.slice a len cap) xs := by
  obtain ⟨h1, h2, _⟩ := h
  subst h2
  exact OwnI.inr.1 h1

/-- the cells of block b, from its head on, are L, and may be written -/
structure Bx (w : World) (b : Nat) (L : List Value) : Prop where
  at_ : w.rangeAt b 0 L
  th : w.there b 0 L.length
  ne : 0 < L.length
section
variable {w w' : World} {b : Nat} {L : List Value}
theorem Bx.cell (h : Bx w b L) (j : Nat) (v : Value) (hj : L[j]? = some v) : w.cell? ⟨b, j, none⟩ = some v := by simpa using h.at_ j v hj
theorem Bx.fz (h : Bx w b L) (j : Nat) (hj : j < L.length) : w.frozen? ⟨b, j, none⟩ = false := by simpa using (h.th j hj).2
theorem Bx.lt (h : Bx w b L) : b < w.heap.size := by
  obtain ⟨v, hv⟩ : ∃ v, L[0]? = some v := ⟨_, List.getElem?_eq_getElem h.ne⟩
  exact Lib.lt_of_cell (h.cell 0 v hv)
theorem Bx.keep (h : Bx w b L) (hb : Below w.heap.size w w') : Bx w' b L := by
  have hlt := h.lt
  refine ⟨fun j v hv => cell_keep hb (h.at_ j v hv), fun j hj => ?_, h.ne⟩
  obtain ⟨h1, h2⟩ := h.th j hj
  refine ⟨?_, (frozen_keep hb hlt).trans h2⟩
  rw [hb.cell (p := ⟨b, 0 + j, none⟩) hlt]
  exact h1
theorem Bx.alloc (h : Bx w b L) (o : Obj) : Bx (w.alloc o) b L := h.keep (below_alloc (Below.refl _ _) o)
theorem Bx.drew (h : Bx w b L) : Bx w.drew b L := h.keep (Below.drew (Below.refl _ _))
theorem Bx.new (w : World) (C : Array Value) (t : TypeId) (L : List Value) (hL : C.toList = L) (hn : 0 < L.length) (g : Nat) (hg : w.heap.size = g) : Bx (w.alloc (.cells C t)) g L := by
  subst hg; subst hL
  refine ⟨fun j v hv => ?_, fun j hj => ⟨?_, by simp [go_sem]⟩, hn⟩
  · have := new_cells w C t rfl j v hv
    rwa [Nat.zero_add]
  · rw [Nat.zero_add, World.cell?_alloc_at _ _ _ _ rfl]
    simpa using hj
theorem Bx.other (h : Bx w b L) (b' o : Nat) (vs : List Value) (hne : b ≠ b') : Bx (w.setCells b' o vs) b L :=
  ⟨World.rangeAt_setCells_apart h.at_ b' o vs (.inl hne), World.there_setCells h.th b' o vs, h.ne⟩
def putL (L : List Value) (o : Nat) (vs : List Value) : List Value := L.take o ++ (vs ++ L.drop (o + vs.length))
theorem putL_len (L vs : List Value) (o : Nat) (h : o + vs.length ≤ L.length) : (putL L o vs).length = L.length := by
  unfold putL
  simp only [List.length_append, List.length_take, List.length_drop]
  omega
theorem Bx.set (h : Bx w b L) (o : Nat) (vs : List Value) (hle : o + vs.length ≤ L.length) : Bx (w.setCells b o vs) b (putL L o vs) := by
  have hlen := putL_len L vs o hle
  refine ⟨fun j v hv => ?_, by rw [hlen]; exact World.there_setCells h.th b o vs, by rw [hlen]; exact h.ne⟩
  have hth : w.there b o vs.length := fun j hj => by simpa using h.th (o + j) (by omega)
  rcases Nat.lt_or_ge j o with h1 | h1
  · have e : L[j]? = some v := by
      unfold putL at hv
      rw [List.getElem?_append_left (by simp; omega), List.getElem?_take_of_lt h1] at hv
      exact hv
    rw [World.cell?_setCells_out b vs o w _ (fun _ _ => by left; show 0 + j < o; omega)]
    exact h.at_ j v e
  · rcases Nat.lt_or_ge j (o + vs.length) with h2 | h2
    · have e : vs[j - o]? = some v := by
        unfold putL at hv
        rw [List.getElem?_append_right (by simp; omega), List.length_take, Nat.min_eq_left (by omega), List.getElem?_append_left (by omega)] at hv
        exact hv
      have := World.rangeAt_setCells_same w b o vs hth (j - o) v e
      rw [show o + (j - o) = j by omega] at this
      rwa [Nat.zero_add]
    · have e : L[j]? = some v := by
        unfold putL at hv
        rw [List.getElem?_append_right (by simp; omega), List.length_take, Nat.min_eq_left (by omega), List.getElem?_append_right (by omega), List.getElem?_drop] at hv
        rw [← hv]
        congr 1
        omega
      rw [World.cell?_setCells_out b vs o w _ (fun _ _ => by right; show o + vs.length ≤ 0 + j; omega)]
      exact h.at_ j v e
theorem Bx.range (h : Bx w b L) (o : Nat) (cs : List Value) (he : (L.drop o).take cs.length = cs) : w.rangeAt b o cs := fun j v hv => by
  have hj : j < cs.length := (List.getElem?_eq_some_iff.1 hv).1
  have e : L[o + j]? = some v := by
    rw [← he, List.getElem?_take_of_lt hj, List.getElem?_drop] at hv
    exact hv
  simpa using h.at_ (o + j) v e
theorem Bx.there (h : Bx w b L) (o n : Nat) (hle : o + n ≤ L.length) : w.there b o n := fun j hj => by simpa using h.th (o + j) (by omega)
end
theorem ex_setCells {F : List Nat} {b : Nat} (hb : b ∈ F) : ∀ (vs : List Value) (w w' : World) (o : Nat), Ex F w w' → Ex F w (w'.setCells b o vs)
  | [], _, _, _, h => h
  | v :: r, w, w', o, h => by rw [World.setCells]; exact ex_setCells hb r w _ _ (Ex.setCell h hb v)
theorem size_setCells2 : ∀ (vs : List Value) (w : World) (b o : Nat), (w.setCells b o vs).heap.size = w.heap.size
  | [], _, _, _ => rfl
  | v :: r, w, b, o => by rw [World.setCells, size_setCells2 r]; simp [World.setCell]
theorem below_setCells2 {B b : Nat} {w : World} (hB : B ≤ b) : ∀ (vs : List Value) (w' : World) (o : Nat), Below B w w' → Below B w (w'.setCells b o vs)
  | [], _, _, h => h
  | v :: r, w', o, h => by rw [World.setCells]; exact below_setCells2 hB r _ _ (Below.setCell h hB v)
section
variable {ops : Array Oper} {rest : List Oper} {op : Oper} {a : Act} {w : World} {Q : Exit → Act → World → Prop}
theorem wpList_load_row {ty : TypeId} {n : Nat} (hu : ∃ fs, Tryz.prog.underlying ty = some (.struct fs)) (hi : (Tryz.prog.info? ty).map (·.size) = some n) (hgd : op.guard = none) (x : Operand) (ho : op.op = .load ty x)
    (b o : Nat) (hx : a.eval x = .pointer (some ⟨b, o, none⟩)) (cs : List Value) (hc : w.rangeAt b o cs) (hn : cs.length = n) (h : wpList Tryz.prog ops Q rest (a.put op.dst (.agg cs.toArray)) w) : wpList Tryz.prog ops Q (op :: rest) a w := by
  obtain ⟨fs, hu⟩ := hu
  exact wpList_load_mid hgd ty x ho b o hx cs _ hc hu rfl (by rw [hn]; exact hi) h
theorem wpList_store_row {ty : TypeId} {n : Nat} (hi : (Tryz.prog.info? ty).map (·.size) = some n) (hgd : op.guard = none) (x y : Operand) (ho : op.op = .store ty x y)
    (b o : Nat) (cs : List Value) (hx : a.eval x = .pointer (some ⟨b, o, none⟩)) (hy : a.eval y = .agg cs.toArray) (ht : w.there b o n) (hn : cs.length = n) (h1 : ∀ v ∈ cs, v.oneCell' = true)
    (h : wpList Tryz.prog ops Q rest (a.put op.dst undef) (w.setCells b o cs)) : wpList Tryz.prog ops Q (op :: rest) a w := by
  subst hn
  exact wpList_store_mid hgd ty x y ho b o cs.toArray hx hy (by simpa using ht) (by simpa using hi) (all_oneCell_toArray h1) (by simpa using h)
theorem run_load_row {ty : TypeId} {n : Nat} (hu : ∃ fs, Tryz.prog.underlying ty = some (.struct fs)) (hi : (Tryz.prog.info? ty).map (·.size) = some n) {b : Nat} {L : List Value} (h : Bx w b L) (hn : L.length = n) : (loadVar ty ⟨b, 0, none⟩).run Tryz.prog w = .ok (.agg L.toArray) w := by
  obtain ⟨fs, hu⟩ := hu
  exact run_loadVar_mid w b 0 ty L _ h.at_ hu rfl (by rw [hn]; exact hi)
end

end Go.Proofs.YtafbdbefmlgioaaGreatDoor
