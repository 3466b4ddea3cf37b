/- Owned rows of rows: one element changed in place, its slice too. -/
import Derived.Test.YtafbdbefmlgioaaGreatDoorNestP
import Derived.Deep.RegionHeld3
import Derived.Deep.DeepCutAuto
import Derived.Test.YtafbdbefmlgioaaGreatDoorScr
namespace Go.Proofs.YtafbdbefmlgioaaGreatDoor
open Go.RowKit
set_option linter.unusedVariables false
set_option linter.unusedSimpArgs false

section
variable {α β : Type} {K : Kd α β} {w w2 : World} {B : Nat} {A C : List α} {y : α} {us : List Value} {u : Value} {g n cap : Nat}
theorem rowOf_mid (K : Kd α β) (A C : List α) (y : α) (us : List Value) (u : Value) (hl : us.length = (A ++ y :: C).length) (hu : us[A.length]? = some u) : rowOf K (A ++ y :: C) us = rowOf K A (us.take A.length) ++ (K.enc y u ++ rowOf K C (us.drop (A.length + 1))) := by
  have h1 : us = us.take A.length ++ u :: us.drop (A.length + 1) := by
    obtain ⟨hlt, he⟩ := List.getElem?_eq_some_iff.1 hu
    rw [← he, ← List.drop_eq_getElem_cons hlt, List.take_append_drop]
  have h2 : (us.take A.length).length = A.length := by rw [List.length_take]; simp at hl; omega
  unfold rowOf
  conv => lhs; rw [h1]
  rw [List.zip_append h2.symm, List.zip_cons_cons, List.flatMap_append, List.flatMap_cons]
theorem ON.mid_row {v : Value} (h : ON K w B v (A ++ y :: C) us) (hu : us[A.length]? = some u) :
    (rowOf K A (us.take A.length)).length = A.length * K.sz ∧ rowOf K (A ++ y :: C) us = rowOf K A (us.take A.length) ++ (K.enc y u ++ rowOf K C (us.drop (A.length + 1))) :=
  ⟨rowOf_len K _ _ (by rw [List.length_take]; have := h.len; simp at this; omega), rowOf_mid K A C y us u h.len hu⟩
theorem ON.nd_mid {v : Value} (h : ON K w B v (A ++ y :: C) us) (hu : us[A.length]? = some u) : (∀ k ∈ u.ownBlock.toList, k ∉ v.ownBlock.toList) ∧ (∀ i z, i ≠ A.length → us[i]? = some z → ∀ k ∈ z.ownBlock.toList, k ∉ v.ownBlock.toList ∧ k ∉ u.ownBlock.toList) := by
  have hnd := h.nd
  rw [blks_cons] at hnd
  obtain ⟨n1, n2, n3⟩ := List.nodup_append.1 hnd
  refine ⟨fun k hk hv => n3 k hv k (mem_blks (List.mem_of_getElem? hu) hk) rfl, fun i z hi hz k hk => ⟨fun hv => n3 k hv k (mem_blks (List.mem_of_getElem? hz) hk) rfl, fun hku => ?_⟩⟩
  obtain ⟨hlt, he⟩ := List.getElem?_eq_some_iff.1 hu
  obtain ⟨hlt2, he2⟩ := List.getElem?_eq_some_iff.1 hz
  have key : ∀ (l : List Value) (i j : Nat) (hi : i < l.length) (hj : j < l.length), i < j → (blks l).Nodup → ∀ k, k ∈ (l[i]).ownBlock.toList → k ∈ (l[j]).ownBlock.toList → False := by
    intro l
    induction l with
    | nil => intro i j hi; exact absurd hi (Nat.not_lt_zero _)
    | cons a l ih =>
      intro i j hi hj hij hn k h1 h2
      rw [blks_cons] at hn
      obtain ⟨m1, m2, m3⟩ := List.nodup_append.1 hn
      obtain ⟨j', rfl⟩ : ∃ j', j = j' + 1 := ⟨j - 1, by omega⟩
      cases i with
      | zero => exact m3 k h1 k (mem_blks (List.getElem_mem _) h2) rfl
      | succ i' => exact ih i' j' (by simpa using hi) (by simpa using hj) (by omega) m2 k (by simpa using h1) (by simpa using h2)
  rcases Nat.lt_or_ge i A.length with h1 | h1
  · exact key us i A.length hlt2 hlt h1 n2 k (by rw [he2]; exact hk) (by rw [he]; exact hku)
  · exact key us A.length i hlt hlt2 (by omega) n2 k (by rw [he]; exact hku) (by rw [he2]; exact hk)
theorem ON.cell_mid {j : Nat} {v : Value} (h : ON K w B (.slice (some ⟨g, 0, none⟩) n cap) (A ++ y :: C) us) (hu : us[A.length]? = some u) (he : (K.enc y u)[j]? = some v) : w.cell? ⟨g, A.length * K.sz + j, none⟩ = some v := by
  obtain ⟨a0, c0, e0, _⟩ := h.form
  injection e0 with _ e1 _
  subst e1
  have hget := rowOf_get K (A ++ y :: C) us A.length y u j v (by simp) hu he
  have hj2 : A.length * K.sz + j < (A ++ y :: C).length * K.sz := by
    have := (List.getElem?_eq_some_iff.1 hget).1
    rwa [rowOf_len K _ _ h.len] at this
  have := h.row.cellAt (A.length * K.sz + j) hj2
  rw [hget] at this
  simpa using this
/-- the cells ahead of the element's slice rewritten -/
theorem ON.patch1 {a b a' : List Value} (h : ON K w B (.slice (some ⟨g, 0, none⟩) n cap) (A ++ y :: C) us) (hu : us[A.length]? = some u) (he : K.enc y u = a ++ u :: b) (hl : a'.length = a.length) :
    OwnF K.encB K.szB K.EB (w.setCells g (A.length * K.sz) a') B u (K.inn y) ∧ w.grownBy (w.setCells g (A.length * K.sz) a') (some g) ∧
    (∀ w2, (w.setCells g (A.length * K.sz) a').grownBy w2 u.ownBlock → w2.ownsRow B K.E K.sz (.slice (some ⟨g, 0, none⟩) n cap) (A ++ y :: C).length (rowOf K A (us.take A.length) ++ (a' ++ (u :: b ++ rowOf K C (us.drop (A.length + 1)))))) ∧ n = (A ++ y :: C).length := by
  obtain ⟨r1, r2⟩ := h.mid_row hu
  obtain ⟨d1, d2⟩ := h.nd_mid hu
  have hn : n = (A ++ y :: C).length := by
    obtain ⟨a0, c0, e0, _⟩ := h.form
    injection e0
  have hr := h.row
  rw [r2, he, List.append_assoc] at hr
  rw [← hn] at hr ⊢
  obtain ⟨s1, s2⟩ := row_setCells a' _ a _ (A.length * K.sz) w hr r1.symm hl.symm
  have hin := h.inn A.length y u (by simp) hu
  refine ⟨row_kept hin (Ex.of_grown s2) (fun k hk e => d1 k hk (by simpa [Value.ownBlock] using e)), s2, fun w2 hg => ?_, rfl⟩
  exact row_kept s1 (Ex.of_grown hg) (fun k hk e => d1 k e hk)
/-- and the cells behind it -/
theorem ON.patch2 {a b a' b' : List Value} {y' : α} (h : ON K w B (.slice (some ⟨g, 0, none⟩) n cap) (A ++ y :: C) us) (hu : us[A.length]? = some u) (he : K.enc y u = a ++ u :: b) (hl : a'.length = a.length) (hg : (w.setCells g (A.length * K.sz) a').grownBy w2 u.ownBlock)
    (hi : OwnF K.encB K.szB K.EB w2 B u (K.inn y')) (he' : K.enc y' u = a' ++ u :: b') (hl' : b'.length = b.length) (hok : K.ok y') (hkB : ∀ z ∈ K.inn y', K.okB z) :
    ON K (w2.setCells g (A.length * K.sz + a.length + 1) b') B (.slice (some ⟨g, 0, none⟩) n cap) (A ++ y' :: C) us ∧ Ex (blks (.slice (some ⟨g, 0, none⟩) n cap :: us)) w (w2.setCells g (A.length * K.sz + a.length + 1) b') := by
  obtain ⟨p1, p2, p3, hn⟩ := h.patch1 hu he hl
  obtain ⟨r1, r2⟩ := h.mid_row hu
  obtain ⟨d1, d2⟩ := h.nd_mid hu
  have hr := p3 w2 hg
  have e1 : rowOf K A (us.take A.length) ++ (a' ++ (u :: b ++ rowOf K C (us.drop (A.length + 1)))) = (rowOf K A (us.take A.length) ++ (a' ++ [u])) ++ (b ++ rowOf K C (us.drop (A.length + 1))) := by simp
  rw [e1, ← hn] at hr
  obtain ⟨s1, s2⟩ := row_setCells b' _ b _ (A.length * K.sz + a.length + 1) w2 hr (by simp [r1, hl]; omega) hl'.symm
  have hlen : (A ++ y' :: C).length = (A ++ y :: C).length := by simp
  have hx : ∀ {v : Value} {E : TypeId} {s m : Nat} {cs : List Value}, w.ownsRow B E s v m cs → (∀ k ∈ v.ownBlock.toList, k ∉ [g] ∧ k ∉ u.ownBlock.toList) → (w2.setCells g (A.length * K.sz + a.length + 1) b').ownsRow B E s v m cs := fun h0 hd =>
    row_kept (row_kept (row_kept h0 (Ex.of_grown p2) (fun k hk e => (hd k hk).1 (by simpa using e))) (Ex.of_grown hg) (fun k hk => (hd k hk).2)) (Ex.of_grown s2) (fun k hk e => (hd k hk).1 (by simpa using e))
  have hm : ∀ k ∈ u.ownBlock.toList, k ∈ blks (.slice (some ⟨g, 0, none⟩) n cap :: us) := fun k hk => mem_blks (List.mem_cons_of_mem _ (List.mem_of_getElem? hu)) hk
  have hgm : g ∈ blks (.slice (some ⟨g, 0, none⟩) n cap :: us) := by rw [blks_cons]; simp [Value.ownBlock]
  refine ⟨⟨by rw [h.len, hlen], ?_, ?_, ?_, ?_, h.nd⟩, (((Ex.of_grown p2).more (fun k hk => by simp at hk; subst hk; exact hgm)).trans ((Ex.of_grown hg).more hm)).trans ((Ex.of_grown s2).more (fun k hk => by simp at hk; subst hk; exact hgm))⟩
  · have e2 : rowOf K (A ++ y' :: C) us = (rowOf K A (us.take A.length) ++ (a' ++ [u])) ++ (b' ++ rowOf K C (us.drop (A.length + 1))) := by
      rw [rowOf_mid K A C y' us u (by rw [h.len, hlen]) hu, he']
      simp
    rw [e2, hlen, ← hn]
    exact s1
  · intro z hz
    rcases List.mem_append.1 hz with hz | hz
    · exact h.ok z (List.mem_append_left _ hz)
    · rcases List.mem_cons.1 hz with rfl | hz
      · exact hok
      · exact h.ok z (List.mem_append_right _ (List.mem_cons_of_mem _ hz))
  · intro i z t h1 h2
    by_cases hiA : i = A.length
    · subst hiA
      rw [hu] at h2
      injection h2 with h2
      subst h2
      rw [List.getElem?_append_right (Nat.le_refl _), Nat.sub_self] at h1
      simp at h1
      subst h1
      exact row_kept hi (Ex.of_grown s2) (fun k hk e => d1 k hk (by simpa [Value.ownBlock] using e))
    · have h3 : (A ++ y :: C)[i]? = some z := by
        rcases Nat.lt_or_ge i A.length with h4 | h4
        · rw [List.getElem?_append_left h4] at h1 ⊢; exact h1
        · rw [List.getElem?_append_right h4] at h1 ⊢
          obtain ⟨m, hm⟩ : ∃ m, i - A.length = m + 1 := ⟨i - A.length - 1, by omega⟩
          rw [hm] at h1 ⊢
          simpa using h1
      refine hx (h.inn i z t h3 h2) (fun k hk => ?_)
      obtain ⟨q1, q2⟩ := d2 i t hiA h2 k hk
      exact ⟨fun e => q1 (by simpa [Value.ownBlock] using e), q2⟩
  · intro z hz
    rcases List.mem_append.1 hz with hz | hz
    · exact h.okB z (List.mem_append_left _ hz)
    · rcases List.mem_cons.1 hz with rfl | hz
      · exact hkB
      · exact h.okB z (List.mem_append_right _ (List.mem_cons_of_mem _ hz))
end

/-- a step marked from q on -/
def mkSt (q : Int) (s : St) : St := ⟨q, ⟨q + 1, q + 1 + 1, q + 1 + 1 + 1, q + 1 + 1 + 1 + 1, q + 1 + 1 + 1 + 1 + 1, q + 1 + 1 + 1 + 1 + 1 + 1, (q + 1 + 1 + 1 + 1 + 1 + 1 + 1) % 3 == 0⟩, marks (q + 1 + 1 + 1 + 1 + 1 + 1 + 1 + 1) s.keep.length, q + 1 + 1 + 1 + 1 + 1 + 1 + 1 + 1 + (s.keep.length : Int), q + 1 + 1 + 1 + 1 + 1 + 1 + 1 + 1 + (s.keep.length : Int) + 1, q + 1 + 1 + 1 + 1 + 1 + 1 + 1 + 1 + (s.keep.length : Int) + 1 + 1, q + 1 + 1 + 1 + 1 + 1 + 1 + 1 + 1 + (s.keep.length : Int) + 1 + 1 + 1, q + 1 + 1 + 1 + 1 + 1 + 1 + 1 + 1 + (s.keep.length : Int) + 1 + 1 + 1 + 1⟩
def qN (q : Int) (s : St) : Int := q + 1 + 1 + 1 + 1 + 1 + 1 + 1 + 1 + (s.keep.length : Int) + 1 + 1 + 1 + 1 + 1
def qA (q : Int) (l : List St) : Int := l.foldl qN q
def mkL (q : Int) : List St → List St
  | [] => []
  | s :: r => mkSt q s :: mkL (qN q s) r
theorem mkL_len : ∀ (l : List St) (q : Int), (mkL q l).length = l.length
  | [], q => rfl
  | s :: r, q => by rw [mkL, List.length_cons, List.length_cons, mkL_len r]
theorem mkL_snoc : ∀ (l : List St) (s : St) (q : Int), mkL q (l ++ [s]) = mkL q l ++ [mkSt (qA q l) s]
  | [], s, q => rfl
  | t :: r, s, q => by
    rw [List.cons_append, mkL, mkL_snoc r s, mkL, List.cons_append]
    rfl
theorem qA_snoc (l : List St) (s : St) (q : Int) : qA q (l ++ [s]) = qN (qA q l) s := by unfold qA; rw [List.foldl_append]; rfl
theorem qA_bd : ∀ (l : List St) (q : Int), (∀ s ∈ l, s.keep.length ≤ 1048576) → q ≤ qA q l ∧ qA q l ≤ q + 2000000 * (l.length : Int)
  | [], q, h => by show q ≤ q ∧ q ≤ _; simp
  | s :: r, q, h => by
    have h1 := qA_bd r (qN q s) (fun t ht => h t (List.mem_cons_of_mem _ ht))
    have h2 := h s List.mem_cons_self
    have e : qA q (s :: r) = qA (qN q s) r := rfl
    rw [e, List.length_cons]
    have h3 : qN q s = q + 1 + 1 + 1 + 1 + 1 + 1 + 1 + 1 + (s.keep.length : Int) + 1 + 1 + 1 + 1 + 1 := rfl
    rw [h3] at h1 ⊢
    omega
theorem mkL_get (l : List St) (q : Int) (i : Nat) (s : St) (h : l[i]? = some s) : (mkL q l)[i]? = some (mkSt (qA q (l.take i)) s) := by
  obtain ⟨hi, he⟩ := List.getElem?_eq_some_iff.1 h
  have h1 : l = l.take i ++ [s] ++ l.drop (i + 1) := by
    rw [← he, List.append_assoc, List.singleton_append, ← List.drop_eq_getElem_cons hi, List.take_append_drop]
  have key : ∀ (a b : List St) (q : Int), mkL q (a ++ b) = mkL q a ++ mkL (qA q a) b := by
    intro a
    induction a with
    | nil => intro b q; rfl
    | cons x a ih => intro b q; rw [List.cons_append, mkL, ih, mkL, List.cons_append]; rfl
  have h2 : ((mkL q (l.take i)).length) = i := by rw [mkL_len, List.length_take]; omega
  conv => lhs; rw [h1]
  rw [key, mkL_snoc, List.append_assoc, List.getElem?_append_right (by omega), h2, Nat.sub_self]
  rfl
theorem step_take {l : List St} {i : Nat} {s : St} (h : l[i]? = some s) : l.take (i + 1) = l.take i ++ [s] := by
  rw [List.take_add_one, h]; rfl
theorem drop_here {l : List St} {i : Nat} {s : St} (h : l[i]? = some s) : l.drop i = s :: l.drop (i + 1) := by
  obtain ⟨hi, he⟩ := List.getElem?_eq_some_iff.1 h
  rw [List.drop_eq_getElem_cons hi, he]

set_option maxRecDepth 100000 in
set_option maxHeartbeats 6400000 in
theorem markStepS_any (B : Nat) (v : Value) (xs : List St) (us : List Value) (q : Int) (w : World) (h : ON StepK w B v xs us) (hB : B ≤ w.heap.size) (hlen : xs.length ≤ 300) (hk : ∀ s ∈ xs, s.keep.length ≤ 1048576) (h0 : 0 ≤ q) (h1 : q ≤ 1000) :
    Calls Tryz.prog 14 #[v, .int .i64 q] w fun e w' => e = .returned (.int .i64 (qA q xs)) ∧ ON StepK w' B v (mkL q xs) us ∧ Ex (blks (v :: us)) w w' := by
  obtain ⟨a, c, rfl, hac, hm⟩ := h.form
  obtain ⟨n, hn⟩ : ∃ n, n = xs.length := ⟨_, rfl⟩
  rw [← hn] at h hlen hac hm ⊢
  have HN := Lib.hid hn
  have HK := Lib.hid hk
  clear hk hn
  go_enter Tryz.func14, Tryz.ntmps14
  go_wp2
  go_loopw [1, 5] (fun cc i wr => ∃ j : Nat, j ≤ n ∧ i = .int .i64 j ∧ cc = .int .i64 (qA q (xs.take j)) ∧ ON StepK wr B (.slice a n c) (mkL q (xs.take j) ++ xs.drop j) us ∧ Ex (blks (.slice a n c :: us)) w wr) (fun _ i _ => n - (intOf i).toNat)
  case atStart => exact ⟨0, Nat.zero_le _, rfl, rfl, h, Ex.refl _ _⟩
  case round =>
    obtain ⟨j, hj, rfl, rfl, hon, hX⟩ := hrel
    by_cases hlt : j < n
    · obtain ⟨s, hs⟩ : ∃ s, xs[j]? = some s := ⟨_, List.getElem?_eq_getElem (by have := HN.out; omega)⟩
      have hA : (mkL q (xs.take j)).length = j := by rw [mkL_len, List.length_take]; have := HN.out; omega
      rw [drop_here hs] at hon
      obtain ⟨u, hu⟩ : ∃ u, us[(mkL q (xs.take j)).length]? = some u := ⟨_, List.getElem?_eq_getElem (by rw [hon.len]; simp)⟩
      have hbd := qA_bd (xs.take j) q (fun s hs => HK.out s (List.mem_of_mem_take hs))
      rw [List.length_take] at hbd
      have hks := HK.out s (List.mem_of_getElem? hs)
      obtain ⟨Q, hQ⟩ : ∃ Q, Q = qA q (xs.take j) := ⟨_, rfl⟩
      rw [← hQ] at hbd ⊢
      have hQ1 : Q ≤ 1099511627776 - 2000000 := by omega
      have hQ0 : 0 ≤ Q := by omega
      have hlenL : (mkL q (xs.take j) ++ s :: xs.drop (j + 1)).length = n := by
        rw [List.length_append, hA, List.length_cons, List.length_drop]
        have := HN.out
        omega
      have hrow := hon.row
      rw [hlenL] at hrow
      obtain ⟨g, rfl, hgB⟩ := block_ne wr hrow (by omega)
      have hfz := hrow.frozenAt
      have hin : InR wr B u s.keep := hon.inn _ s u (by simp) hu
      obtain ⟨ua, uc, rfl, -⟩ := OwnF.of (ok := I64) hin (hon.okB s (by simp))
      have cm := fun o v he => hon.cell_mid hu (j := o) (v := v) he
      rw [hA] at cm
      have c0 : wr.cell? ⟨g, j * 14, none⟩ = some (.int .i64 s.kind) := cm 0 _ rfl
      have c1 : wr.cell? ⟨g, j * 14 + 1, none⟩ = some (.int .i64 s.ev.kind) := cm 1 _ rfl
      have c2 : wr.cell? ⟨g, j * 14 + 2, none⟩ = some (.int .i64 s.ev.key) := cm 2 _ rfl
      have c3 : wr.cell? ⟨g, j * 14 + 3, none⟩ = some (.int .i64 s.ev.ch) := cm 3 _ rfl
      have c4 : wr.cell? ⟨g, j * 14 + 4, none⟩ = some (.int .i64 s.ev.to) := cm 4 _ rfl
      have c5 : wr.cell? ⟨g, j * 14 + 5, none⟩ = some (.int .i64 s.ev.amt) := cm 5 _ rfl
      have c6 : wr.cell? ⟨g, j * 14 + 6, none⟩ = some (.int .i64 s.ev.fee) := cm 6 _ rfl
      have c7 : wr.cell? ⟨g, j * 14 + 7, none⟩ = some (.bool s.ev.yes) := cm 7 _ rfl
      have c8 : wr.cell? ⟨g, j * 14 + 8, none⟩ = some (.slice ua s.keep.length uc) := cm 8 _ rfl
      have c9 : wr.cell? ⟨g, j * 14 + 9, none⟩ = some (.int .i64 s.lo) := cm 9 _ rfl
      have c10 : wr.cell? ⟨g, j * 14 + 10, none⟩ = some (.int .i64 s.hi) := cm 10 _ rfl
      have c11 : wr.cell? ⟨g, j * 14 + 11, none⟩ = some (.int .i64 s.step) := cm 11 _ rfl
      have c12 : wr.cell? ⟨g, j * 14 + 12, none⟩ = some (.int .i64 s.mn) := cm 12 _ rfl
      have c13 : wr.cell? ⟨g, j * 14 + 13, none⟩ = some (.int .i64 s.mx) := cm 13 _ rfl
      obtain ⟨p1, p2, p3, -⟩ := hon.patch1 (a := [.int .i64 s.kind, .int .i64 s.ev.kind, .int .i64 s.ev.key, .int .i64 s.ev.ch, .int .i64 s.ev.to, .int .i64 s.ev.amt, .int .i64 s.ev.fee, .bool s.ev.yes]) (b := [.int .i64 s.lo, .int .i64 s.hi, .int .i64 s.step, .int .i64 s.mn, .int .i64 s.mx]) (a' := [.int .i64 Q, .int .i64 (Q + 1), .int .i64 (Q + 1 + 1), .int .i64 (Q + 1 + 1 + 1), .int .i64 (Q + 1 + 1 + 1 + 1), .int .i64 (Q + 1 + 1 + 1 + 1 + 1), .int .i64 (Q + 1 + 1 + 1 + 1 + 1 + 1), .bool ((Q + 1 + 1 + 1 + 1 + 1 + 1 + 1) % 3 == 0)]) hu rfl rfl
      rw [hA] at p1 p2 p3
      rw [hlenL] at p3
      obtain ⟨m, hmm⟩ : ∃ m, m = s.keep.length := ⟨_, rfl⟩
      have hOI : OI (wr.setCells g (j * 14) [.int .i64 Q, .int .i64 (Q + 1), .int .i64 (Q + 1 + 1), .int .i64 (Q + 1 + 1 + 1), .int .i64 (Q + 1 + 1 + 1 + 1), .int .i64 (Q + 1 + 1 + 1 + 1 + 1), .int .i64 (Q + 1 + 1 + 1 + 1 + 1 + 1), .bool ((Q + 1 + 1 + 1 + 1 + 1 + 1 + 1) % 3 == 0)]) B ua m uc s.keep := ⟨by rw [hmm]; exact OwnI.inr.2 p1, hmm.symm, fun x hx => hon.okB s (by simp) x hx⟩
      have HOI := Lib.hid hOI
      have HP3 := Lib.hid p3
      have HON := Lib.hid hon
      have HU := Lib.hid hu
      have HX := Lib.hid hX
      have hBr : Hid (B ≤ (wr.setCells g (j * 14) [.int .i64 Q, .int .i64 (Q + 1), .int .i64 (Q + 1 + 1), .int .i64 (Q + 1 + 1 + 1), .int .i64 (Q + 1 + 1 + 1 + 1), .int .i64 (Q + 1 + 1 + 1 + 1 + 1), .int .i64 (Q + 1 + 1 + 1 + 1 + 1 + 1), .bool ((Q + 1 + 1 + 1 + 1 + 1 + 1 + 1) % 3 == 0)]).heap.size) := by
        unfold Hid
        rw [size_setCells2]
        exact Nat.le_trans hB hX.size
      rw [← hmm] at c8 hks
      have HMM := Lib.hid hmm
      have HS := Lib.hid hs
      have HQ := Lib.hid hQ
      have HA := Lib.hid hA
      have HL := Lib.hid hlenL
      clear cm p1 p2 p3 hOI hon hu hX hrow hin hmm hs hQ hA hlenL h
      go_wp2_with fail
      refine (markIntS_any B ua m uc s.keep _ _ HOI.out hBr.out (by omega) (by omega) (by omega)).mono ?_
      rintro e w2 ⟨rfl, o2, -, g2⟩
      have row2 := HP3.out w2 (by rw [← HMM.out]; exact g2)
      have fz2 := row2.frozenAt
      have hcell : ∀ o, o < 14 → ∃ y, w2.cell? ⟨g, j * 14 + o, none⟩ = some y := fun o ho => by
        have hlt2 : j * 14 + o < n * 14 := by omega
        exact ⟨_, (row2.cellAt (j * 14 + o) hlt2).trans (List.getElem?_eq_getElem (by rw [row2.1]; exact hlt2))⟩
      obtain ⟨y9, d9⟩ := hcell 9 (by omega)
      obtain ⟨y10, d10⟩ := hcell 10 (by omega)
      obtain ⟨y11, d11⟩ := hcell 11 (by omega)
      obtain ⟨y12, d12⟩ := hcell 12 (by omega)
      obtain ⟨y13, d13⟩ := hcell 13 (by omega)
      have HG2 := Lib.hid g2
      have HO2 := Lib.hid o2
      clear hcell row2 g2 o2
      have hnext : Hid (qA q (xs.take (j + 1)) = Q + 1 + 1 + 1 + 1 + 1 + 1 + 1 + 1 + (m : Int) + 1 + 1 + 1 + 1 + 1) := by unfold Hid; rw [step_take HS.out, qA_snoc, ← HQ.out, HMM.out]; rfl
      have fin : Hid (ON StepK (w2.setCells g (j * 14 + 8 + 1) [.int .i64 (Q + 1 + 1 + 1 + 1 + 1 + 1 + 1 + 1 + (m : Int)), .int .i64 (Q + 1 + 1 + 1 + 1 + 1 + 1 + 1 + 1 + (m : Int) + 1), .int .i64 (Q + 1 + 1 + 1 + 1 + 1 + 1 + 1 + 1 + (m : Int) + 1 + 1), .int .i64 (Q + 1 + 1 + 1 + 1 + 1 + 1 + 1 + 1 + (m : Int) + 1 + 1 + 1), .int .i64 (Q + 1 + 1 + 1 + 1 + 1 + 1 + 1 + 1 + (m : Int) + 1 + 1 + 1 + 1)]) B (.slice (some ⟨g, 0, none⟩) n c) (mkL q (xs.take (j + 1)) ++ xs.drop (j + 1)) us ∧ Ex (blks (.slice (some ⟨g, 0, none⟩) n c :: us)) w (w2.setCells g (j * 14 + 8 + 1) [.int .i64 (Q + 1 + 1 + 1 + 1 + 1 + 1 + 1 + 1 + (m : Int)), .int .i64 (Q + 1 + 1 + 1 + 1 + 1 + 1 + 1 + 1 + (m : Int) + 1), .int .i64 (Q + 1 + 1 + 1 + 1 + 1 + 1 + 1 + 1 + (m : Int) + 1 + 1), .int .i64 (Q + 1 + 1 + 1 + 1 + 1 + 1 + 1 + 1 + (m : Int) + 1 + 1 + 1), .int .i64 (Q + 1 + 1 + 1 + 1 + 1 + 1 + 1 + 1 + (m : Int) + 1 + 1 + 1 + 1)])) := by
        have hmm := HMM.out
        subst hmm
        have hg := HG2.out
        have f := HON.out.patch2 (w2 := w2) (y' := mkSt Q s) (a := [.int .i64 s.kind, .int .i64 s.ev.kind, .int .i64 s.ev.key, .int .i64 s.ev.ch, .int .i64 s.ev.to, .int .i64 s.ev.amt, .int .i64 s.ev.fee, .bool s.ev.yes]) (b := [.int .i64 s.lo, .int .i64 s.hi, .int .i64 s.step, .int .i64 s.mn, .int .i64 s.mx]) (a' := [.int .i64 Q, .int .i64 (Q + 1), .int .i64 (Q + 1 + 1), .int .i64 (Q + 1 + 1 + 1), .int .i64 (Q + 1 + 1 + 1 + 1), .int .i64 (Q + 1 + 1 + 1 + 1 + 1), .int .i64 (Q + 1 + 1 + 1 + 1 + 1 + 1), .bool ((Q + 1 + 1 + 1 + 1 + 1 + 1 + 1) % 3 == 0)]) (b' := [.int .i64 (Q + 1 + 1 + 1 + 1 + 1 + 1 + 1 + 1 + (s.keep.length : Int)), .int .i64 (Q + 1 + 1 + 1 + 1 + 1 + 1 + 1 + 1 + (s.keep.length : Int) + 1), .int .i64 (Q + 1 + 1 + 1 + 1 + 1 + 1 + 1 + 1 + (s.keep.length : Int) + 1 + 1), .int .i64 (Q + 1 + 1 + 1 + 1 + 1 + 1 + 1 + 1 + (s.keep.length : Int) + 1 + 1 + 1), .int .i64 (Q + 1 + 1 + 1 + 1 + 1 + 1 + 1 + 1 + (s.keep.length : Int) + 1 + 1 + 1 + 1)]) HU.out rfl rfl (by rw [HA.out]; exact hg) (OwnI.inr.1 HO2.out.1) rfl rfl trivial (fun z hz => marks_bd _ _ (by omega) (by omega) (by omega) z hz)
        rw [HA.out] at f
        unfold Hid
        rw [step_take HS.out, mkL_snoc, ← HQ.out, List.append_assoc]
        exact ⟨f.1, HX.out.trans f.2⟩
      go_wp2
      go_roundw
      case rel => exact ⟨j + 1, by omega, rfl, by rw [hnext.out], fin.out.1, fin.out.2⟩
      case measure => simp only [intOf]; omega
    · have e : j = n := by omega
      subst e
      have hall : xs.take j = xs := List.take_of_length_le (by have := HN.out; omega)
      have hnil : xs.drop j = [] := List.drop_eq_nil_of_le (by have := HN.out; omega)
      rw [hall, hnil, List.append_nil] at hon
      rw [hall]
      clear h
      go_wp2
      go_ret
      exact ⟨rfl, hon, hX⟩

set_option maxRecDepth 100000 in
set_option maxHeartbeats 6400000 in
theorem heldStepS_any (v : Value) (xs : List St) (q : Int) (w : World) (h : VN StepK w w.heap.size v (mkL q xs)) (hlen : xs.length ≤ 300) (hk : ∀ s ∈ xs, s.keep.length ≤ 1048576) (h0 : 0 ≤ q) (h1 : q ≤ 1000) :
    Calls Tryz.prog 15 #[v, .int .i64 q] w fun e w' => e = .returned (.int .i64 (qA q xs)) ∧ w = w' := by
  obtain ⟨a, n, c, rfl, hnc, hnil, hxl, hmx, hat⟩ := h.at_
  rw [mkL_len] at hxl
  have HK := Lib.hid hk
  have HAT := Lib.hid hat
  have HN := Lib.hid hxl
  have hn3 : n ≤ 300 := by omega
  clear hk hat hxl h hnil hmx hlen
  go_enter Tryz.func15, Tryz.ntmps15
  go_wp2
  go_loop [1, 5] (fun cc i => ∃ j : Nat, j ≤ n ∧ i = .int .i64 j ∧ cc = .int .i64 (qA q (xs.take j))) (fun _ i => n - (intOf i).toNat)
  case atStart => exact ⟨0, Nat.zero_le _, rfl, rfl⟩
  case round =>
    obtain ⟨j, hj, rfl, rfl⟩ := hrel
    by_cases hlt : j < n
    · obtain ⟨b, off, x, u, rfl, hb, -, hu, hc, hx, -⟩ := HAT.out j hlt
      obtain ⟨s, hs⟩ : ∃ s, xs[j]? = some s := ⟨_, List.getElem?_eq_getElem (by have := HN.out; omega)⟩
      have hxs : x = mkSt (qA q (xs.take j)) s := by
        have h1 := mkL_get xs q j s hs
        rw [hx.out] at h1
        exact Option.some.inj h1
      subst hxs
      have hbd := qA_bd (xs.take j) q (fun s hs => HK.out s (List.mem_of_mem_take hs))
      rw [List.length_take] at hbd
      have hks := HK.out s (List.mem_of_getElem? hs)
      have hnext : Hid (qA q (xs.take (j + 1)) = qN (qA q (xs.take j)) s) := by unfold Hid; rw [step_take hs, qA_snoc]
      obtain ⟨Q, hQ⟩ : ∃ Q, Q = qA q (xs.take j) := ⟨_, rfl⟩
      rw [← hQ] at hbd hc hu hnext ⊢
      have hQ1 : Q ≤ 1099511627776 - 2000000 := by omega
      have hQ0 : 0 ≤ Q := by omega
      obtain ⟨ua, um, uc, rfl, -, -, hf⟩ := hu
      have hI : IS w w.heap.size ua um (marks (Q + 1 + 1 + 1 + 1 + 1 + 1 + 1 + 1) s.keep.length) := InV.is hf
      have hum : um = s.keep.length := by rw [← hI.1, marks_len]
      rw [← hum] at hI hks
      have cm := fun o v he => hc o v he
      obtain ⟨m, hmm⟩ : ∃ m, m = s.keep.length := ⟨_, rfl⟩
      have c0 : w.cell? ⟨b, off + j * 14, none⟩ = some (.int .i64 Q) := cm 0 _ rfl
      have c1 : w.cell? ⟨b, off + j * 14 + 1, none⟩ = some (.int .i64 (Q + 1)) := cm 1 _ rfl
      have c2 : w.cell? ⟨b, off + j * 14 + 2, none⟩ = some (.int .i64 (Q + 1 + 1)) := cm 2 _ rfl
      have c3 : w.cell? ⟨b, off + j * 14 + 3, none⟩ = some (.int .i64 (Q + 1 + 1 + 1)) := cm 3 _ rfl
      have c4 : w.cell? ⟨b, off + j * 14 + 4, none⟩ = some (.int .i64 (Q + 1 + 1 + 1 + 1)) := cm 4 _ rfl
      have c5 : w.cell? ⟨b, off + j * 14 + 5, none⟩ = some (.int .i64 (Q + 1 + 1 + 1 + 1 + 1)) := cm 5 _ rfl
      have c6 : w.cell? ⟨b, off + j * 14 + 6, none⟩ = some (.int .i64 (Q + 1 + 1 + 1 + 1 + 1 + 1)) := cm 6 _ rfl
      have c7 : w.cell? ⟨b, off + j * 14 + 7, none⟩ = some (.bool ((Q + 1 + 1 + 1 + 1 + 1 + 1 + 1) % 3 == 0)) := cm 7 _ rfl
      have c8 : w.cell? ⟨b, off + j * 14 + 8, none⟩ = some (.slice ua um uc) := cm 8 _ rfl
      have c9 : w.cell? ⟨b, off + j * 14 + 9, none⟩ = some (.int .i64 (Q + 1 + 1 + 1 + 1 + 1 + 1 + 1 + 1 + (s.keep.length : Int))) := cm 9 _ rfl
      have c10 : w.cell? ⟨b, off + j * 14 + 10, none⟩ = some (.int .i64 (Q + 1 + 1 + 1 + 1 + 1 + 1 + 1 + 1 + (s.keep.length : Int) + 1)) := cm 10 _ rfl
      have c11 : w.cell? ⟨b, off + j * 14 + 11, none⟩ = some (.int .i64 (Q + 1 + 1 + 1 + 1 + 1 + 1 + 1 + 1 + (s.keep.length : Int) + 1 + 1)) := cm 11 _ rfl
      have c12 : w.cell? ⟨b, off + j * 14 + 12, none⟩ = some (.int .i64 (Q + 1 + 1 + 1 + 1 + 1 + 1 + 1 + 1 + (s.keep.length : Int) + 1 + 1 + 1)) := cm 12 _ rfl
      have c13 : w.cell? ⟨b, off + j * 14 + 13, none⟩ = some (.int .i64 (Q + 1 + 1 + 1 + 1 + 1 + 1 + 1 + 1 + (s.keep.length : Int) + 1 + 1 + 1 + 1)) := cm 13 _ rfl
      rw [← hum] at c9 c10 c11 c12 c13
      have HX := Lib.hid hI
      have HS := Lib.hid hs
      have HU := Lib.hid hum
      have HQ := Lib.hid hQ
      clear cm hc hf hI hs hum hQ hx hbd hmm m
      go_wp2_with fail
      refine (heldIntS_any ua um uc _ w HX.out (by omega) (by omega) (by omega)).mono ?_
      rintro e w2 ⟨rfl, rfl⟩
      go_wp2
      go_round
      case rel => exact ⟨j + 1, by omega, by go_num, by rw [hnext.out]; unfold qN; rw [← HU.out]⟩
      case measure => simp [intOf]; omega
    · have e : j = n := by omega
      subst e
      have hall : xs.take j = xs := List.take_of_length_le (by have := HN.out; omega)
      rw [hall]
      go_wp2
      go_ret
      exact ⟨rfl, rfl⟩

set_option maxRecDepth 100000 in
set_option maxHeartbeats 6400000 in
theorem eqStepS_any (v v' : Value) (xs : List St) (w : World) (h : VN StepK w w.heap.size v xs) (h' : VN StepK w w.heap.size v' xs) :
    Calls Tryz.prog 13 #[v, v'] w fun e w' => e = .returned (.bool true) ∧ Below w.heap.size w w' := by
  obtain ⟨a, n, c, rfl, -, -, hxl, hmx, hat⟩ := h.at_
  obtain ⟨a', n', c', rfl, -, -, hxl', -, hat'⟩ := h'.at_
  have hl : n ≤ 9223372036854775807 := by unfold maxLen at hmx; omega
  have enn : n = n' := by omega
  subst enn
  have HAT := Lib.hid hat
  have HAT' := Lib.hid hat'
  clear hat hat' h h' hxl hxl' hmx
  go_enter Tryz.func13, Tryz.ntmps13
  go_wp2
  go_loopw [5] (fun i wr => ∃ k : Nat, k ≤ n ∧ i = .int .i64 k ∧ Below w.heap.size w wr) (fun i _ => n - (intOf i).toNat)
  case atStart => exact ⟨0, Nat.zero_le _, rfl, Below.refl _ _⟩
  case round =>
    obtain ⟨k, hk, rfl, hB⟩ := hrel
    by_cases hlt : k < n
    · obtain ⟨b, off, x, u, rfl, hb, -, hu, hc, hx, -⟩ := HAT.out k hlt
      obtain ⟨b', off', x', u', rfl, hb', -, hu', hc', hx', -⟩ := HAT'.out k hlt
      have he := hx'.out
      rw [hx.out] at he
      injection he with he
      subst he
      obtain ⟨ua, um, uc, rfl, -, -, hf⟩ := hu
      obtain ⟨ua', um', uc', rfl, -, -, hf'⟩ := hu'
      have I1 : IS w w.heap.size ua um x.keep := InV.is hf
      have I2 : IS w w.heap.size ua' um' x.keep := InV.is hf'
      have e : um = um' := by rw [← I1.1, ← I2.1]
      subst e
      have r1 : wr.rangeAt b (off + k * 14) [.int .i64 x.kind, .int .i64 x.ev.kind, .int .i64 x.ev.key, .int .i64 x.ev.ch, .int .i64 x.ev.to, .int .i64 x.ev.amt, .int .i64 x.ev.fee, .bool x.ev.yes, .slice ua um uc, .int .i64 x.lo, .int .i64 x.hi, .int .i64 x.step, .int .i64 x.mn, .int .i64 x.mx] := fun j v hj => cell_keep hB (hc j v hj)
      have r2 : wr.rangeAt b' (off' + k * 14) [.int .i64 x.kind, .int .i64 x.ev.kind, .int .i64 x.ev.key, .int .i64 x.ev.ch, .int .i64 x.ev.to, .int .i64 x.ev.amt, .int .i64 x.ev.fee, .bool x.ev.yes, .slice ua' um uc', .int .i64 x.lo, .int .i64 x.hi, .int .i64 x.step, .int .i64 x.mn, .int .i64 x.mx] := fun j v hj => cell_keep hB (hc' j v hj)
      have K1 := IS.keep I1 hB
      have K2 := IS.keep I2 hB
      clear hx hx' hc hc' hf hf' I1 I2
      obtain ⟨fs1, hu1⟩ := unStp
      have hi1 : (Tryz.prog.info? 79).map (·.size) = some ([.int .i64 x.kind, .int .i64 x.ev.kind, .int .i64 x.ev.key, .int .i64 x.ev.ch, .int .i64 x.ev.to, .int .i64 x.ev.amt, .int .i64 x.ev.fee, .bool x.ev.yes, .slice ua um uc, .int .i64 x.lo, .int .i64 x.hi, .int .i64 x.step, .int .i64 x.mn, .int .i64 x.mx] : List Value).length := infStp
      have hi2 : (Tryz.prog.info? 79).map (·.size) = some ([.int .i64 x.kind, .int .i64 x.ev.kind, .int .i64 x.ev.key, .int .i64 x.ev.ch, .int .i64 x.ev.to, .int .i64 x.ev.amt, .int .i64 x.ev.fee, .bool x.ev.yes, .slice ua' um uc', .int .i64 x.lo, .int .i64 x.hi, .int .i64 x.step, .int .i64 x.mn, .int .i64 x.mx] : List Value).length := infStp
      go_upto_region 6 with fail
      refine wp_region_held_drew (S := fun w' => w'.rangeAt b (off + k * 14) [.int .i64 x.kind, .int .i64 x.ev.kind, .int .i64 x.ev.key, .int .i64 x.ev.ch, .int .i64 x.ev.to, .int .i64 x.ev.amt, .int .i64 x.ev.fee, .bool x.ev.yes, .slice ua um uc, .int .i64 x.lo, .int .i64 x.hi, .int .i64 x.step, .int .i64 x.mn, .int .i64 x.mx] ∧ w'.rangeAt b' (off' + k * 14) [.int .i64 x.kind, .int .i64 x.ev.kind, .int .i64 x.ev.key, .int .i64 x.ev.ch, .int .i64 x.ev.to, .int .i64 x.ev.amt, .int .i64 x.ev.fee, .bool x.ev.yes, .slice ua' um uc', .int .i64 x.lo, .int .i64 x.hi, .int .i64 x.step, .int .i64 x.mn, .int .i64 x.mx]) (by kernel_rfl) ⟨r1, r2⟩ (fun hHeld => ?_)
      refine wpAnyH_take (i := 0) (v := .slice (some ⟨b, off, none⟩) n c) rfl (by kernel_rfl) (by kernel_rfl) (by kernel_rfl) (fun _ _ _ h => h) (Or.inl ⟨by rfl, ?_⟩) (by assumption) ?_
      · intro w' hSw
        go_simp
      try simp only [Act.put, List.setIfInBounds_toArray, List.set_cons_zero, List.set_cons_succ]
      refine wpAnyH_take (i := 1) (v := .int .i64 k) rfl (by kernel_rfl) (by kernel_rfl) (by kernel_rfl) (fun _ _ _ h => h) (Or.inl ⟨by rfl, ?_⟩) (by assumption) ?_
      · intro w' hSw
        go_simp
      try simp only [Act.put, List.setIfInBounds_toArray, List.set_cons_zero, List.set_cons_succ]
      refine wpAnyH_take (i := 2) (v := .pointer (some ⟨b, off + k * 14, none⟩)) rfl (by kernel_rfl) (by kernel_rfl) (by kernel_rfl) (fun _ _ _ h => h) (Or.inl ⟨by rfl, ?_⟩) (by assumption) ?_
      · intro w' hSw
        go_simp
      try simp only [Act.put, List.setIfInBounds_toArray, List.set_cons_zero, List.set_cons_succ]
      refine wpAnyH_take (i := 3) (v := .agg #[.int .i64 x.kind, .int .i64 x.ev.kind, .int .i64 x.ev.key, .int .i64 x.ev.ch, .int .i64 x.ev.to, .int .i64 x.ev.amt, .int .i64 x.ev.fee, .bool x.ev.yes, .slice ua um uc, .int .i64 x.lo, .int .i64 x.hi, .int .i64 x.step, .int .i64 x.mn, .int .i64 x.mx]) rfl (by kernel_rfl) (by kernel_rfl) (by kernel_rfl) (fun _ _ _ h => h) (yieldsIf_load_mid (by rfl) _ _ rfl _ _ rfl [.int .i64 x.kind, .int .i64 x.ev.kind, .int .i64 x.ev.key, .int .i64 x.ev.ch, .int .i64 x.ev.to, .int .i64 x.ev.amt, .int .i64 x.ev.fee, .bool x.ev.yes, .slice ua um uc, .int .i64 x.lo, .int .i64 x.hi, .int .i64 x.step, .int .i64 x.mn, .int .i64 x.mx] _ (fun _ h => h.1) hu1 rfl hi1) (by assumption) ?_
      try simp only [Act.put, List.setIfInBounds_toArray, List.set_cons_zero, List.set_cons_succ]
      refine wpAnyH_take (i := 4) (v := .slice (some ⟨b', off', none⟩) n c') rfl (by kernel_rfl) (by kernel_rfl) (by kernel_rfl) (fun _ _ _ h => h) (Or.inl ⟨by rfl, ?_⟩) (by assumption) ?_
      · intro w' hSw
        go_simp
      try simp only [Act.put, List.setIfInBounds_toArray, List.set_cons_zero, List.set_cons_succ]
      refine wpAnyH_take (i := 5) (v := .int .i64 k) rfl (by kernel_rfl) (by kernel_rfl) (by kernel_rfl) (fun _ _ _ h => h) (Or.inl ⟨by rfl, ?_⟩) (by assumption) ?_
      · intro w' hSw
        go_simp
      try simp only [Act.put, List.setIfInBounds_toArray, List.set_cons_zero, List.set_cons_succ]
      refine wpAnyH_take (i := 6) (v := .pointer (some ⟨b', off' + k * 14, none⟩)) rfl (by kernel_rfl) (by kernel_rfl) (by kernel_rfl) (fun _ _ _ h => h) (Or.inl ⟨by rfl, ?_⟩) (by assumption) ?_
      · intro w' hSw
        go_simp
      try simp only [Act.put, List.setIfInBounds_toArray, List.set_cons_zero, List.set_cons_succ]
      refine wpAnyH_take (i := 7) (v := .agg #[.int .i64 x.kind, .int .i64 x.ev.kind, .int .i64 x.ev.key, .int .i64 x.ev.ch, .int .i64 x.ev.to, .int .i64 x.ev.amt, .int .i64 x.ev.fee, .bool x.ev.yes, .slice ua' um uc', .int .i64 x.lo, .int .i64 x.hi, .int .i64 x.step, .int .i64 x.mn, .int .i64 x.mx]) rfl (by kernel_rfl) (by kernel_rfl) (by kernel_rfl) (fun _ _ _ h => h) (yieldsIf_load_mid (by rfl) _ _ rfl _ _ rfl [.int .i64 x.kind, .int .i64 x.ev.kind, .int .i64 x.ev.key, .int .i64 x.ev.ch, .int .i64 x.ev.to, .int .i64 x.ev.amt, .int .i64 x.ev.fee, .bool x.ev.yes, .slice ua' um uc', .int .i64 x.lo, .int .i64 x.hi, .int .i64 x.step, .int .i64 x.mn, .int .i64 x.mx] _ (fun _ h => h.2) hu1 rfl hi2) (by assumption) ?_
      try simp only [Act.put, List.setIfInBounds_toArray, List.set_cons_zero, List.set_cons_succ]
      refine wpAnyH_ready (rs := [8]) (by kernel_rfl) (by simp) ?_
      refine AllReadyH.cons rfl (fun K hK => ?_) AllReadyH.nil
      go_simp
      (go_at_call 39; refine (eqStep_any _ _ _ _ _ _ _ _ _ _ _ _ _ _ _ _ _ _ x.keep _ (K1.keep (by (repeat (first | (with_reducible exact Below.refl _ _) | (with_reducible assumption) | (with_reducible refine Below.setCell ?_ ?side _; case side => first | (with_reducible exact Nat.le_refl _) | (simp; done) | (simp only [World.size_alloc, World.size_setCell, World.size_drew, World.heap_drewN] at *; omega)) | (with_reducible refine below_alloc ?_ _) | (with_reducible refine Below.drew ?_) | (with_reducible refine below_drewN ?_) | (with_reducible refine below_via (by assumption) ?_))))) (K2.keep (by (repeat (first | (with_reducible exact Below.refl _ _) | (with_reducible assumption) | (with_reducible refine Below.setCell ?_ ?side _; case side => first | (with_reducible exact Nat.le_refl _) | (simp; done) | (simp only [World.size_alloc, World.size_setCell, World.size_drew, World.heap_drewN] at *; omega)) | (with_reducible refine below_alloc ?_ _) | (with_reducible refine Below.drew ?_) | (with_reducible refine below_drewN ?_) | (with_reducible refine below_via (by assumption) ?_)))))).mono ?_)
      rintro e w7 ⟨rfl, hb7⟩
      have D7 : Below wr.heap.size wr w7 := by (repeat (first | (with_reducible exact Below.refl _ _) | (with_reducible assumption) | (with_reducible refine Below.setCell ?_ ?side _; case side => first | (with_reducible exact Nat.le_refl _) | (simp; done) | (simp only [World.size_alloc, World.size_setCell, World.size_drew, World.heap_drewN] at *; omega)) | (with_reducible refine below_alloc ?_ _) | (with_reducible refine Below.drew ?_) | (with_reducible refine below_drewN ?_) | (with_reducible refine below_via (by assumption) ?_)))
      refine hK.out _ _ ⟨fun j v hj => cell_keep D7 (r1 j v hj), fun j v hj => cell_keep D7 (r2 j v hj)⟩ (fun hHeld7 => ?_)
      clear hK K
      try simp only [Act.put, List.setIfInBounds_toArray, List.set_cons_zero, List.set_cons_succ]
      refine wpAnyH_take (i := 9) (v := .bool false) rfl (by kernel_rfl) (by kernel_rfl) (by kernel_rfl) (fun _ _ _ h => h) (Or.inl ⟨by rfl, ?_⟩) (by assumption) ?_
      · intro w' hSw
        go_simp
      try simp only [Act.put, List.setIfInBounds_toArray, List.set_cons_zero, List.set_cons_succ]
      refine wpAnyH_done (by kernel_rfl) ?_ _
      go_wp2
      go_roundw
      case rel => exact ⟨k + 1, by omega, by go_num, below_via D7 hB⟩
      case measure => simp [intOf]; omega
    · go_wp2
      go_ret
      exact ⟨rfl, hB⟩

end Go.Proofs.YtafbdbefmlgioaaGreatDoor
