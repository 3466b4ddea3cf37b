/- Rows of steps: a struct of 14 cells with a slice of integers in it. -/
import Derived.Test.YtafbdbefmlgioaaGreatDoorNestP
import Derived.Test.YtafbdbefmlgioaaGreatDoorStV
namespace Go.Proofs.YtafbdbefmlgioaaGreatDoor
open Go.RowKit
set_option linter.unusedVariables false
set_option linter.unusedSimpArgs false

def St.ok (s : St) : Prop := I64 s.kind ∧ s.ev.ok ∧ I64 s.lo ∧ I64 s.hi ∧ I64 s.step ∧ I64 s.mn ∧ I64 s.mx
def St.row (s : St) (u : Value) : List Value :=
  [.int .i64 s.kind, .int .i64 s.ev.kind, .int .i64 s.ev.key, .int .i64 s.ev.ch, .int .i64 s.ev.to, .int .i64 s.ev.amt, .int .i64 s.ev.fee, .bool s.ev.yes, u, .int .i64 s.lo, .int .i64 s.hi, .int .i64 s.step, .int .i64 s.mn, .int .i64 s.mx]
def StepK : Kd St Int := ⟨St.row, 14, St.keep, fun _ => True, inE, 1, I64, 79, 3, fun _ _ => rfl, fun _ => rfl⟩
theorem infoStep : (Tryz.prog.info? 79).map (fun i => (i.zero, i.size, i.bytes)) = some (some (.agg #[.int .i64 0, .int .i64 0, .int .i64 0, .int .i64 0, .int .i64 0, .int .i64 0, .int .i64 0, .bool false, .slice none 0 0, .int .i64 0, .int .i64 0, .int .i64 0, .int .i64 0, .int .i64 0]), 14, 128) := by kernel_rfl

theorem StepK_one (x : St) (u : Value) (h : u.oneCell' = true) : ∀ c ∈ StepK.enc x u, c.oneCell' = true := fun c hc => by
  simp only [StepK, St.row, List.mem_cons, List.not_mem_nil, or_false] at hc
  rcases hc with rfl | rfl | rfl | rfl | rfl | rfl | rfl | rfl | rfl | rfl | rfl | rfl | rfl | rfl <;> first | rfl | exact h
theorem unStp : ∃ fs, Tryz.prog.underlying 79 = some (.struct fs) := ⟨_, Tryz.underlying79⟩
theorem infStp : (Tryz.prog.info? 79).map (·.size) = some 14 := by kernel_rfl

section
variable {α β : Type} {K : Kd α β} {w w' : World} {B : Nat} {v : Value} {xs : List α} {vs : List Value}
/-- ON over pairs: the row of an ON is a plain row of pairs -/
def encP (K : Kd α β) (p : α × Value) : List Value := K.enc p.1 p.2
theorem ON.flat (h : ON K w B v xs vs) : OwnF (encP K) K.sz K.E w B v (xs.zip vs) := by
  have hl : (xs.zip vs).length = xs.length := by rw [List.length_zip, h.len]; omega
  unfold OwnF
  rw [hl]
  exact h.row
/-- the type of a block that a row owns -/
theorem own_ty {E : TypeId} {s n : Nat} {u : Value} {cs : List Value} (h : w.ownsRow B E s u n cs) : ∀ k ∈ u.ownBlock.toList, ∃ cur, w.heap[k]? = some (.cells cur E (0, 0)) := fun k hk => by
  rcases h.2 with ⟨rfl, _⟩ | ⟨g, cap, cur, rfl, _, hh, _⟩
  · simp [Value.ownBlock] at hk
  · simp [Value.ownBlock] at hk
    subst hk
    exact ⟨cur, hh⟩
/-- one element more: outer and inner blocks told apart by their types -/
theorem ON.snoc2 {w1 : World} {x : α} {u v' : Value} (hE : K.E ≠ K.EB) (h : ON K w B v xs vs) (hu : OwnF K.encB K.szB K.EB w B u (K.inn x)) (hok : K.ok x) (hkB : ∀ y ∈ K.inn x, K.okB y) (hn : ∀ k ∈ u.ownBlock.toList, k ∉ blks (v :: vs))
    (hrow : w1.ownsRow B K.E K.sz v' (xs.length + 1) (rowOf K xs vs ++ K.enc x u)) (hg : w.grownBy w1 v.ownBlock) : ON K w1 B v' (xs ++ [x]) (vs ++ [u]) := by
  have hx := Ex.of_grown hg
  have hnd := h.nd
  rw [blks_cons] at hnd
  have hd : ∀ k ∈ blks vs, k ∉ v.ownBlock.toList := fun k hk he => (List.nodup_append.1 hnd).2.2 k he k hk rfl
  have hd2 : ∀ k ∈ u.ownBlock.toList, k ∉ v.ownBlock.toList ∧ k ∉ blks vs := fun k hk => ⟨fun he => hn k hk (by rw [blks_cons]; exact List.mem_append_left _ he), fun he => hn k hk (by rw [blks_cons]; exact List.mem_append_right _ he)⟩
  refine ⟨by simp [h.len], ?_, ?_, ?_, ?_, ?_⟩
  · rw [rowOf_snoc K xs vs x u h.len, List.length_append]
    exact hrow
  · intro y hy
    rcases List.mem_append.1 hy with hy | hy
    · exact h.ok y hy
    · simp at hy; subst hy; exact hok
  · intro i y z h1 h2
    rcases Nat.lt_or_ge i xs.length with hlt | hge
    · rw [List.getElem?_append_left hlt] at h1
      rw [List.getElem?_append_left (by have := h.len; omega)] at h2
      exact row_kept (h.inn i y z h1 h2) hx (fun k hk he => hd k (mem_blks (List.mem_of_getElem? h2) hk) he)
    · rw [List.getElem?_append_right hge] at h1
      rw [List.getElem?_append_right (by have := h.len; omega)] at h2
      have hi : i - xs.length = 0 := by
        rcases Nat.eq_zero_or_pos (i - xs.length) with h0 | h0
        · exact h0
        · rw [List.getElem?_eq_none (by simp; omega)] at h1; cases h1
      rw [hi] at h1
      rw [show i - vs.length = 0 by rw [h.len]; exact hi] at h2
      simp at h1 h2
      subst h1; subst h2
      exact row_kept hu hx (fun k hk => (hd2 k hk).1)
  · intro y hy
    rcases List.mem_append.1 hy with hy | hy
    · exact h.okB y hy
    · simp at hy; subst hy; exact hkB
  · have hul := own_lt hu
    have hin : ∀ p ∈ v'.ownBlock.toList, p ∉ blks vs ∧ p ∉ u.ownBlock.toList := fun p hp => by
      obtain ⟨c1, hc1⟩ := own_ty hrow p hp
      refine ⟨fun hq => ?_, fun hq => ?_⟩
      · obtain ⟨z, hz, hpz⟩ := List.mem_filterMap.1 hq
        obtain ⟨i, hi, hiz⟩ := List.getElem_of_mem hz
        have h2 : vs[i]? = some z := by rw [← hiz]; exact List.getElem?_eq_getElem hi
        have hi2 : i < xs.length := by rw [← h.len]; exact hi
        have h1 : xs[i]? = some xs[i] := List.getElem?_eq_getElem hi2
        obtain ⟨c2, hc2⟩ := own_ty (row_kept (h.inn i _ z h1 h2) hx (fun k hk he => hd k (mem_blks hz hk) he)) p (by rw [hpz]; simp)
        rw [hc1] at hc2
        simp at hc2
        exact hE hc2.2
      · obtain ⟨c2, hc2⟩ := own_ty (row_kept hu hx (fun k hk => (hd2 k hk).1)) p hq
        rw [hc1] at hc2
        simp at hc2
        exact hE hc2.2
    rw [blks_cons, blks_app, ← List.append_assoc]
    have hu1 : blks [u] = u.ownBlock.toList := by rw [blks_cons]; simp [blks]
    rw [hu1]
    have nd1 : ∀ z : Value, z.ownBlock.toList.Nodup := fun z => by cases z.ownBlock <;> simp
    refine List.nodup_append.2 ⟨List.nodup_append.2 ⟨nd1 _, (List.nodup_append.1 hnd).2.1, ?_⟩, nd1 _, ?_⟩
    · intro p hp q hq e
      subst e
      exact (hin p hp).1 hq
    · intro p hp q hq e
      subst e
      rcases List.mem_append.1 hp with hp | hp
      · exact (hin p hp).2 hq
      · exact (hd2 p hq).2 hp
/-- append one element to an owned nested row -/
theorem wpList_append_on {S : TypeId} {z : Value} {nb : Nat} (info : (Tryz.prog.info? K.E).map (fun i => (i.zero, i.size, i.bytes)) = some (some z, K.sz, nb)) (hS : Tryz.prog.underlying S = some (.slice K.E)) (hzs : z.cells.size = K.sz) (hpos : 0 < K.sz) (hnb : nb ≤ 512)
    (hone : ∀ x u, u.oneCell' = true → ∀ c ∈ K.enc x u, c.oneCell' = true) {ops : Array Oper} {rest : List Oper} {o : Oper} {a : Act} {Q : Exit → Act → World → Prop} (hgd : o.guard = none) (s x : Operand)
    (ho : o.op = .call { callee := .builtin .append, args := #[s, x], argTypes := #[S, S] }) (B : Nat) (v : Value) (xs : List α) (vs : List Value) (hs : a.eval s = v) (hown : ON K w B v xs vs)
    (g : Nat) (y : α) (u : Value) (hu1 : u.oneCell' = true) (hx : a.eval x = .slice (some ⟨g, 0, none⟩) 1 1) (hy : ∀ j c, (K.enc y u)[j]? = some c → w.cell? ⟨g, j, none⟩ = some c) (hlen : xs.length ≤ 1099511627) (hB : B ≤ w.heap.size) (hE : K.E ≠ K.EB)
    (hu : OwnF K.encB K.szB K.EB w B u (K.inn y)) (hok : K.ok y) (hkB : ∀ z ∈ K.inn y, K.okB z) (hn : ∀ k ∈ u.ownBlock.toList, k ∉ blks (v :: vs))
    (Kn : ∀ v' w', ON K w' B v' (xs ++ [y]) (vs ++ [u]) → Below B w w' → w.grownBy w' v.ownBlock → wpList Tryz.prog ops Q rest (a.put o.dst v') w') : wpList Tryz.prog ops Q (o :: rest) a w := by
  obtain ⟨i0, hi, hz0, hz1, hz2⟩ := info_parts info
  refine wpList_append_own w hgd s x S ho B K.E i0 z K.sz nb hS hi hz0 hz1 hz2 hzs hpos v xs.length (rowOf K xs vs) hs hown.row ⟨g, 0, none⟩ 1 1 (K.enc y u) hx (by rw [K.len]; omega) ?_ (hone y u hu1) ?_ ?_ hB ?_
  · intro j c hj
    have := hy j c hj
    unfold Addr.add
    split
    · rename_i h0; subst h0; exact this
    · simpa using this
  · unfold maxLen; omega
  · have : (xs.length + 1) * nb ≤ 1099511628 * 512 := Nat.mul_le_mul (by omega) hnb
    omega
  · intro v' w' h1 h2 h3
    refine Kn v' w' (hown.snoc2 hE hu hok hkB hn h1 h2) (grown_below (OwnF.le (ON.flat hown) (Nat.le_refl _)) h2 hB) h2
end

end Go.Proofs.YtafbdbefmlgioaaGreatDoor
