/- Rows of structs that hold a slice each: read, and owned. -/
import Derived.Test.YtafbdbefmlgioaaGreatDoorOwn
import Derived.Lib.AtoiErrMem
namespace Go.Proofs.YtafbdbefmlgioaaGreatDoor
open Go.RowKit
set_option linter.unusedVariables false
set_option linter.unusedSimpArgs false

/-- a struct with one slice in it -/
structure Kd (α β : Type) where
  enc : α → Value → List Value
  sz : Nat
  inn : α → List β
  ok : α → Prop
  encB : β → List Value
  szB : Nat
  okB : β → Prop
  E : TypeId
  EB : TypeId
  len : ∀ x v, (enc x v).length = sz
  lenB : ∀ y, (encB y).length = szB
section
variable {α β : Type} {K : Kd α β} {w w' : World} {B B' : Nat} {a : Option Addr} {len : Nat} {xs : List α}
/-- the slice (a, len) holds the elements xs, in a block below B, and so do their slices -/
def NS (K : Kd α β) (w : World) (B : Nat) (a : Option Addr) (len : Nat) (xs : List α) : Prop :=
  xs.length = len ∧ len ≤ maxLen ∧ (∀ x ∈ xs, K.ok x) ∧
  ∀ (i : Nat) (x : α), xs[i]? = some x → ∃ b off a' c', a = some ⟨b, off, none⟩ ∧ b < B ∧ (∀ (j : Nat) (v : Value), (K.enc x (.slice a' (K.inn x).length c'))[j]? = some v → w.cell? ⟨b, off + i * K.sz + j, none⟩ = some v) ∧ FS K.encB K.szB K.okB w B a' (K.inn x).length (K.inn x)
theorem NS.keepB (h : NS K w B a len xs) (hb : Below B' w w') (hB : B ≤ B') : NS K w' B a len xs :=
  ⟨h.1, h.2.1, h.2.2.1, fun i x hx => by
    obtain ⟨b, off, a', c', e, hlt, hc, hf⟩ := h.2.2.2 i x hx
    exact ⟨b, off, a', c', e, hlt, fun j v hv => (hb.cell (p := ⟨b, off + i * K.sz + j, none⟩) (Nat.lt_of_lt_of_le hlt hB)).trans (hc j v hv), hf.keepB hb hB⟩⟩
theorem NS.mono (h : NS K w B a len xs) (hB : B ≤ B') : NS K w B' a len xs :=
  ⟨h.1, h.2.1, h.2.2.1, fun i x hx => by
    obtain ⟨b, off, a', c', e, hlt, hc, hf⟩ := h.2.2.2 i x hx
    exact ⟨b, off, a', c', e, Nat.lt_of_lt_of_le hlt hB, hc, hf.mono hB⟩⟩
theorem NS.keep (h : NS K w w.heap.size a len xs) (hb : Below w.heap.size w w') : NS K w' w'.heap.size a len xs :=
  (h.keepB hb (Nat.le_refl _)).mono hb.size
theorem NS.keepG {g : Nat} (h : NS K w B a len xs) (hg : w.grownBy w' (some g)) (hB : B ≤ g) : NS K w' B a len xs :=
  ⟨h.1, h.2.1, h.2.2.1, fun i x hx => by
    obtain ⟨b, off, a', c', e, hlt, hc, hf⟩ := h.2.2.2 i x hx
    exact ⟨b, off, a', c', e, hlt, fun j v hv => hg.cell (hc j v hv) (by intro h; injection h with h; simp only at h; omega), hf.keepG hg hB⟩⟩
theorem NS.at_ (h : NS K w B a len xs) {k : Nat} (hk : k < len) :
    ∃ b off x a' c', a = some ⟨b, off, none⟩ ∧ b < B ∧ (∀ (j : Nat) (v : Value), (K.enc x (.slice a' (K.inn x).length c'))[j]? = some v → w.cell? ⟨b, off + k * K.sz + j, none⟩ = some v) ∧ FS K.encB K.szB K.okB w B a' (K.inn x).length (K.inn x) ∧ K.ok x ∧ Hid (xs[k]? = some x) ∧ Hid (xs.take (k + 1) = xs.take k ++ [x]) := by
  have hl : k < xs.length := by have := h.1; omega
  obtain ⟨b, off, a', c', e, hlt, hc, hf⟩ := h.2.2.2 k _ (List.getElem?_eq_getElem hl)
  exact ⟨b, off, _, a', c', e, hlt, hc, hf, h.2.2.1 _ (List.getElem_mem hl), List.getElem?_eq_getElem hl, List.take_succ_eq_append_getElem hl⟩
theorem NS.all (h : NS K w B a len xs) {k : Nat} (hk : len ≤ k) : xs.take k = xs := List.take_of_length_le (by have := h.1; omega)
theorem NS.lenB (h : NS K w B a len xs) : len ≤ 9223372036854775807 := by have := h.2.1; unfold maxLen at this; omega
theorem NS.nil (w : World) (B : Nat) (a : Option Addr) : NS K w B a 0 [] := ⟨rfl, by simp [maxLen], by simp, fun i x h => by simp at h⟩

/-! what the call owns -/
/-- w' is w with new blocks, and with writes to the blocks F alone -/
structure Ex (F : List Nat) (w w' : World) : Prop where
  os : w'.os = w.os
  tape : w'.tape = w.tape
  output : w'.output = w.output
  size : w.heap.size ≤ w'.heap.size
  block : ∀ k, k < w.heap.size → k ∉ F → w'.heap[k]? = w.heap[k]?
theorem Ex.refl (F : List Nat) (w : World) : Ex F w w := ⟨rfl, rfl, rfl, Nat.le_refl _, fun _ _ _ => rfl⟩
theorem Ex.of_grown {r : Option Nat} (h : w.grownBy w' r) : Ex r.toList w w' := ⟨h.os, h.tape, h.output, h.size, fun k hk hn => h.block k hk (fun e => hn (by rw [← e]; simp))⟩
theorem Ex.of_below (h : Below w.heap.size w w') (F : List Nat) : Ex F w w' := ⟨h.os, h.tape, h.output, h.size, fun k hk _ => h.block k hk⟩
theorem Ex.more {F G : List Nat} (h : Ex F w w') (hs : ∀ k ∈ F, k ∈ G) : Ex G w w' := ⟨h.os, h.tape, h.output, h.size, fun k hk hn => h.block k hk (fun e => hn (hs k e))⟩
theorem Ex.trans {F : List Nat} {w1 w2 : World} (h : Ex F w w1) (h2 : Ex F w1 w2) : Ex F w w2 :=
  ⟨h2.os.trans h.os, h2.tape.trans h.tape, h2.output.trans h.output, Nat.le_trans h.size h2.size, fun k hk hn => (h2.block k (Nat.lt_of_lt_of_le hk h.size) hn).trans (h.block k hk hn)⟩
theorem Ex.below {F : List Nat} (h : Ex F w w') (hF : ∀ k ∈ F, B ≤ k) (hs : B ≤ w.heap.size) : Below B w w' := ⟨h.os, h.tape, h.output, h.size, fun k hk => h.block k (Nat.lt_of_lt_of_le hk hs) (fun e => by have := hF k e; omega)⟩
theorem Ex.cell {F : List Nat} (h : Ex F w w') {b o : Nat} {v : Value} (hc : w.cell? ⟨b, o, none⟩ = some v) (hn : b ∉ F) : w'.cell? ⟨b, o, none⟩ = some v := by
  rw [World.cell?_of_block (w := w) (a := ⟨b, o, none⟩) (h.block b (Lib.lt_of_cell hc) hn)]
  exact hc
theorem Ex.is {F : List Nat} {len : Nat} {xs : List Int} (h : Ex F w w') (hi : IS w B a len xs) (hF : ∀ k ∈ F, B ≤ k) : IS w' B a len xs :=
  ⟨hi.1, hi.2.1, hi.2.2.1, fun i x hx => by
    obtain ⟨b, off, e, hlt, hc⟩ := hi.2.2.2 i x hx
    exact ⟨b, off, e, hlt, h.cell hc fun hm => by have := hF b hm; omega⟩⟩
theorem Ex.fs {γ : Type} {en : γ → List Value} {s : Nat} {o : γ → Prop} {F : List Nat} {len : Nat} {ys : List γ} (h : Ex F w w') (hi : FS en s o w B a len ys) (hF : ∀ k ∈ F, B ≤ k) : FS en s o w' B a len ys :=
  ⟨hi.1, hi.2.1, hi.2.2.1, fun i x hx => by
    obtain ⟨b, off, e, hlt, hc⟩ := hi.2.2.2 i x hx
    exact ⟨b, off, e, hlt, fun j v hv => h.cell (hc j v hv) fun hm => by have := hF b hm; omega⟩⟩
theorem Ex.ns {F : List Nat} (h : Ex F w w') (hi : NS K w B a len xs) (hF : ∀ k ∈ F, B ≤ k) : NS K w' B a len xs :=
  ⟨hi.1, hi.2.1, hi.2.2.1, fun i x hx => by
    obtain ⟨b, off, a', c', e, hlt, hc, hf⟩ := hi.2.2.2 i x hx
    exact ⟨b, off, a', c', e, hlt, fun j v hv => h.cell (hc j v hv) fun hm => by have := hF b hm; omega, h.fs hf hF⟩⟩
/-- the blocks of slices -/
def blks (vs : List Value) : List Nat := vs.filterMap Value.ownBlock
theorem blks_cons (v : Value) (vs : List Value) : blks (v :: vs) = v.ownBlock.toList ++ blks vs := by
  unfold blks
  cases h : v.ownBlock <;> simp [h]
theorem blks_app (vs us : List Value) : blks (vs ++ us) = blks vs ++ blks us := by unfold blks; rw [List.filterMap_append]
theorem row_kept {E : TypeId} {s n : Nat} {v : Value} {cs : List Value} {F : List Nat} (h : w.ownsRow B E s v n cs) (hx : Ex F w w') (hn : ∀ k ∈ v.ownBlock.toList, k ∉ F) : w'.ownsRow B E s v n cs := by
  refine ⟨h.1, ?_⟩
  rcases h.2 with h2 | ⟨g, cap, cur, rfl, hg, hh, hr⟩
  · exact .inl h2
  · refine .inr ⟨g, cap, cur, rfl, hg, ?_, hr⟩
    have hlt : g < w.heap.size := by
      rcases Nat.lt_or_ge g w.heap.size with hlt | hge
      · exact hlt
      · rw [Array.getElem?_eq_none hge] at hh; cases hh
    rw [hx.block g hlt (hn g (by simp [Value.ownBlock]))]
    exact hh
theorem row_mono {E : TypeId} {s n : Nat} {v : Value} {cs : List Value} (h : w.ownsRow B E s v n cs) (hB : B' ≤ B) : w.ownsRow B' E s v n cs := by
  refine ⟨h.1, ?_⟩
  rcases h.2 with h2 | ⟨g, cap, cur, rfl, hg, hr⟩
  · exact .inl h2
  · exact .inr ⟨g, cap, cur, rfl, Nat.le_trans hB hg, hr⟩
/-- the cells of the elements, their slices' values given -/
def rowOf (K : Kd α β) (xs : List α) (vs : List Value) : List Value := (xs.zip vs).flatMap fun p => K.enc p.1 p.2
theorem rowOf_get (K : Kd α β) (xs : List α) (vs : List Value) (i : Nat) (x : α) (u : Value) (j : Nat) (v : Value) (hx : xs[i]? = some x) (hu : vs[i]? = some u) (hj : (K.enc x u)[j]? = some v) : (rowOf K xs vs)[i * K.sz + j]? = some v := by
  refine flatMap_get (enc := fun p : α × Value => K.enc p.1 p.2) (sz := K.sz) (fun p => K.len p.1 p.2) (xs.zip vs) i (x, u) j v ?_ hj
  rw [List.getElem?_zip_eq_some]
  exact ⟨hx, hu⟩
theorem rowOf_len (K : Kd α β) (xs : List α) (vs : List Value) (h : vs.length = xs.length) : (rowOf K xs vs).length = xs.length * K.sz := by
  unfold rowOf
  rw [flatMap_len (enc := fun p : α × Value => K.enc p.1 p.2) (sz := K.sz) (fun p => K.len p.1 p.2), List.length_zip, h, Nat.min_self]
theorem rowOf_snoc (K : Kd α β) (xs : List α) (vs : List Value) (x : α) (u : Value) (h : vs.length = xs.length) : rowOf K (xs ++ [x]) (vs ++ [u]) = rowOf K xs vs ++ K.enc x u := by
  unfold rowOf
  rw [List.zip_append (by omega)]
  simp
/-- the slice v, of elements xs, and their slices vs: all of them the call's own, each in a block of its own -/
structure ON (K : Kd α β) (w : World) (B : Nat) (v : Value) (xs : List α) (vs : List Value) : Prop where
  len : vs.length = xs.length
  row : w.ownsRow B K.E K.sz v xs.length (rowOf K xs vs)
  ok : ∀ x ∈ xs, K.ok x
  inn : ∀ (i : Nat) (x : α) (u : Value), xs[i]? = some x → vs[i]? = some u → OwnF K.encB K.szB K.EB w B u (K.inn x)
  okB : ∀ x ∈ xs, ∀ y ∈ K.inn x, K.okB y
  nd : (blks (v :: vs)).Nodup
variable {v : Value} {vs : List Value}
theorem ON.nil (w : World) (B : Nat) : ON K w B (.slice none 0 0) ([] : List α) [] :=
  ⟨rfl, ⟨by simp [rowOf], .inl ⟨rfl, rfl⟩⟩, by simp, fun i x u hx => by simp at hx, by simp, by show (List.filterMap _ _).Nodup; rw [List.filterMap_cons]; show (List.filterMap Value.ownBlock []).Nodup; exact List.nodup_nil⟩
theorem own_lt {E : TypeId} {s n : Nat} {u : Value} {cs : List Value} (h : w.ownsRow B E s u n cs) : ∀ k ∈ u.ownBlock.toList, B ≤ k ∧ k < w.heap.size := fun k hk => by
  cases hb : u.ownBlock with
  | none => rw [hb] at hk; simp at hk
  | some g =>
    rw [hb] at hk
    simp at hk
    subst hk
    exact h.lt k hb
theorem ON.lt (h : ON K w B v xs vs) : ∀ k ∈ blks (v :: vs), B ≤ k ∧ k < w.heap.size := fun k hk => by
  rw [blks_cons] at hk
  rcases List.mem_append.1 hk with hk | hk
  · exact own_lt h.row k hk
  · obtain ⟨u, hu, hb⟩ := List.mem_filterMap.1 hk
    obtain ⟨i, hi, rfl⟩ := List.getElem_of_mem hu
    have hl := h.len
    exact own_lt (h.inn i _ _ (List.getElem?_eq_getElem (by omega)) (List.getElem?_eq_getElem hi)) k (by rw [hb]; simp)
theorem mem_blks {u : Value} {us : List Value} (hu : u ∈ us) {k : Nat} (hk : k ∈ u.ownBlock.toList) : k ∈ blks us := by
  refine List.mem_filterMap.2 ⟨u, hu, ?_⟩
  cases hb : u.ownBlock with
  | none => rw [hb] at hk; simp at hk
  | some g => rw [hb] at hk; simp at hk; rw [hk]
theorem ON.kept {F : List Nat} (h : ON K w B v xs vs) (hx : Ex F w w') (hn : ∀ k ∈ blks (v :: vs), k ∉ F) : ON K w' B v xs vs :=
  ⟨h.len, row_kept h.row hx (fun k hk => hn k (mem_blks List.mem_cons_self hk)), h.ok, fun i x u h1 h2 => row_kept (h.inn i x u h1 h2) hx (fun k hk => hn k (mem_blks (List.mem_cons_of_mem _ (List.mem_of_getElem? h2)) hk)), h.okB, h.nd⟩
theorem ON.keep (h : ON K w B v xs vs) (hb : Below w.heap.size w w') : ON K w' B v xs vs := h.kept (Ex.of_below hb []) (fun k _ => by simp)
theorem ON.le (h : ON K w B v xs vs) (hB : B' ≤ B) : ON K w B' v xs vs :=
  ⟨h.len, row_mono h.row hB, h.ok, fun i x u h1 h2 => row_mono (h.inn i x u h1 h2) hB, h.okB, h.nd⟩
theorem OwnF.fsv {γ : Type} {en : γ → List Value} {s : Nat} {o : γ → Prop} {E : TypeId} {ys : List γ} (henc : ∀ y, (en y).length = s) (h : OwnF en s E w B v ys) (hm : ∀ y ∈ ys, o y) : ∃ a c, v = .slice a ys.length c ∧ FS en s o w w.heap.size a ys.length ys := by
  obtain ⟨a, c, e, ho⟩ := OwnF.of (ok := o) h hm
  exact ⟨a, c, e, OF.fs henc ho⟩
theorem ON.form (h : ON K w B v xs vs) : ∃ a c, v = .slice a xs.length c ∧ xs.length ≤ c ∧ xs.length ≤ maxLen := by
  rcases h.row.2 with ⟨h1, h2⟩ | ⟨g, cap, cur, h1, _, _, h3, h4, _⟩
  · exact ⟨none, 0, by rw [h1, h2], by omega, by omega⟩
  · exact ⟨_, cap, h1, h3, Nat.le_trans h3 h4⟩
theorem ON.ns {c : Nat} (h : ON K w B (.slice a len c) xs vs) : len = xs.length ∧ NS K w w.heap.size a len xs := by
  obtain ⟨a', c', e, hc, hm⟩ := h.form
  injection e with e1 e2 e3
  subst e1; subst e2; subst e3
  refine ⟨rfl, rfl, hm, h.ok, fun i x hx => ?_⟩
  have hi : i < xs.length := (List.getElem?_eq_some_iff.1 hx).1
  have hl := h.len
  obtain ⟨u, hu⟩ : ∃ u, vs[i]? = some u := ⟨_, List.getElem?_eq_getElem (by omega)⟩
  obtain ⟨a', c', rfl, hf⟩ := OwnF.fsv (o := K.okB) K.lenB (h.inn i x u hx hu) (h.okB x (List.mem_of_getElem? hx))
  rcases h.row.2 with ⟨_, h0⟩ | ⟨g, cap, cur, hv, hg, hh, hnc, hcm, hsz, ht⟩
  · omega
  · injection hv with e1 e2 e3
    subst e1; subst e3
    refine ⟨g, 0, a', c', rfl, ?_, fun j u hj => ?_, hf⟩
    · rcases Nat.lt_or_ge g w.heap.size with hlt | hge
      · exact hlt
      · rw [Array.getElem?_eq_none hge] at hh; cases hh
    · have hget := rowOf_get K xs vs i x _ j u hx hu hj
      have hj2 : i * K.sz + j < xs.length * K.sz := by
        have := (List.getElem?_eq_some_iff.1 hget).1
        rwa [rowOf_len K xs vs hl] at this
      have := h.row.cellAt (i * K.sz + j) hj2
      rw [hget] at this
      simpa using this
/-- one element more -/
theorem ON.snoc {w1 : World} {x : α} {u v' : Value} (h : ON K w B v xs vs) (hu : OwnF K.encB K.szB K.EB w B u (K.inn x)) (hok : K.ok x) (hkB : ∀ y ∈ K.inn x, K.okB y) (hn : ∀ k ∈ u.ownBlock.toList, k ∉ blks (v :: vs))
    (hrow : w1.ownsRow B K.E K.sz v' (xs.length + 1) (rowOf K xs vs ++ K.enc x u)) (hg : w.grownBy w1 v.ownBlock) (hb : v'.ownBlock = v.ownBlock ∨ ∃ b, v'.ownBlock = some b ∧ w.heap.size ≤ b) : ON K w1 B v' (xs ++ [x]) (vs ++ [u]) := by
  have hx := Ex.of_grown hg
  have hnd := h.nd
  rw [blks_cons] at hnd
  have hd : ∀ k ∈ blks vs, k ∉ v.ownBlock.toList := fun k hk he => (List.nodup_append.1 hnd).2.2 k he k hk rfl
  have hd2 : ∀ k ∈ u.ownBlock.toList, k ∉ v.ownBlock.toList ∧ k ∉ blks vs := fun k hk => ⟨fun he => hn k hk (by rw [blks_cons]; exact List.mem_append_left _ he), fun he => hn k hk (by rw [blks_cons]; exact List.mem_append_right _ he)⟩
  refine ⟨by simp [h.len], ?_, ?_, ?_, ?_, ?_⟩
  · rw [rowOf_snoc K xs vs x u h.len, List.length_append]
    exact hrow
  · intro y hy
    rcases List.mem_append.1 hy with hy | hy
    · exact h.ok y hy
    · simp at hy; subst hy; exact hok
  · intro i y z h1 h2
    rcases Nat.lt_or_ge i xs.length with hlt | hge
    · rw [List.getElem?_append_left hlt] at h1
      rw [List.getElem?_append_left (by have := h.len; omega)] at h2
      exact row_kept (h.inn i y z h1 h2) hx (fun k hk he => hd k (mem_blks (List.mem_of_getElem? h2) hk) he)
    · rw [List.getElem?_append_right hge] at h1
      rw [List.getElem?_append_right (by have := h.len; omega)] at h2
      have hi : i - xs.length = 0 := by
        rcases Nat.eq_zero_or_pos (i - xs.length) with h0 | h0
        · exact h0
        · rw [List.getElem?_eq_none (by simp; omega)] at h1; cases h1
      rw [hi] at h1
      rw [show i - vs.length = 0 by rw [h.len]; exact hi] at h2
      simp at h1 h2
      subst h1; subst h2
      exact row_kept hu hx (fun k hk => (hd2 k hk).1)
  · intro y hy
    rcases List.mem_append.1 hy with hy | hy
    · exact h.okB y hy
    · simp at hy; subst hy; exact hkB
  · have hv' : ∀ k ∈ v'.ownBlock.toList, k ∈ v.ownBlock.toList ∨ w.heap.size ≤ k := fun k hk => by
      rcases hb with hb | ⟨b, hb, hge⟩
      · rw [hb] at hk; exact .inl hk
      · rw [hb] at hk; simp at hk; exact .inr (by omega)
    have hlt := h.lt
    have hul := own_lt hu
    rw [blks_cons, blks_app, ← List.append_assoc]
    have hu1 : blks [u] = u.ownBlock.toList := by rw [blks_cons]; simp [blks]
    rw [hu1]
    have nd1 : ∀ z : Value, z.ownBlock.toList.Nodup := fun z => by cases z.ownBlock <;> simp
    refine List.nodup_append.2 ⟨List.nodup_append.2 ⟨nd1 _, (List.nodup_append.1 hnd).2.1, ?_⟩, nd1 _, ?_⟩
    · intro p hp q hq e
      subst e
      rcases hv' p hp with h1 | h1
      · exact hd p hq h1
      · have := hlt p (by rw [blks_cons]; exact List.mem_append_right _ hq); omega
    · intro p hp q hq e
      subst e
      rcases List.mem_append.1 hp with hp | hp
      · rcases hv' p hp with h1 | h1
        · exact (hd2 p hq).1 h1
        · have := hul p hq; omega
      · exact (hd2 p hq).2 hp
end

end Go.Proofs.YtafbdbefmlgioaaGreatDoor
