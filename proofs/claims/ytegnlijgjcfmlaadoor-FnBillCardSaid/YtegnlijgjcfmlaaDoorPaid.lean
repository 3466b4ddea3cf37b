/- Bills that are paid. -/
import Derived.Test.YtegnlijgjcfmlaaDoorBill
import Derived.Test.YtegnlijgjcfmlaaDoorSBill
import Derived.Test.YtegnlijgjcfmlaaDoorHas
import Derived.Test.YtegnlijgjcfmlaaDoorIntsW
import Derived.Test.YtegnlijgjcfmlaaDoorAdd
import Derived.Deep.RegionWith
namespace Go.Proofs.YtegnlijgjcfmlaaDoor
open Go.RowKit
set_option linter.unusedVariables false
set_option linter.unusedSimpArgs false

def Bl.good (r : Bl) : Bool := billOk r.i r.p r.a r.m r.d r.s
theorem Bl.good_amt {r : Bl} (h : r.good = true) : 1 ≤ r.a ∧ r.a ≤ 1125899906842624 := by
  simp only [Bl.good, billOk, Bool.and_eq_true] at h
  exact inB_t h.1.1.1.1.2
def paidStep (ps : List Int) (st : Int × List Int) (r : Bl) : Int × List Int := if hasB ps r.i = true ∧ hasB st.2 r.i = false then (st.1 + r.a, st.2 ++ [r.i]) else st
def paidGo (ps : List Int) (l : List Bl) : Int × List Int := l.foldl (paidStep ps) (0, [])
theorem paidGo_snoc (ps : List Int) (l : List Bl) (r : Bl) : paidGo ps (l ++ [r]) = paidStep ps (paidGo ps l) r := by simp [paidGo, List.foldl_append]
def billsPaid (l : List Bl) (ps : List Int) : Int := if l.all Bl.good = true then (if (paidGo ps l).1 ≤ 1125899906842624 then (paidGo ps l).1 else 0) else 0
theorem paid_bad {l : List Bl} {ps : List Int} {k : Nat} {r : Bl} (h : l[k]? = some r) (hr : r.good = false) : billsPaid l ps = 0 := by
  unfold billsPaid
  rw [if_neg]
  intro h2
  rw [List.all_eq_true] at h2
  have := h2 r (List.mem_of_getElem? h)
  rw [hr] at this; exact absurd this (by simp)
theorem paidGo_mono (ps : List Int) (r : List Bl) (hr : ∀ x ∈ r, x.good = true) : ∀ st : Int × List Int, st.1 ≤ (r.foldl (paidStep ps) st).1 := by
  induction r with
  | nil => intro st; exact Int.le_refl _
  | cons x xs ih =>
    intro st
    have h1 := ih (fun y hy => hr y (List.mem_cons_of_mem _ hy)) (paidStep ps st x)
    have h2 := Bl.good_amt (hr x List.mem_cons_self)
    refine Int.le_trans ?_ h1
    unfold paidStep
    split
    · show st.1 ≤ st.1 + x.a; omega
    · exact Int.le_refl _
theorem paid_over {l : List Bl} {ps : List Int} {k : Nat} (h : 1125899906842624 < (paidGo ps (l.take k)).1) : billsPaid l ps = 0 := by
  unfold billsPaid
  split
  · rename_i h2
    rw [List.all_eq_true] at h2
    rw [if_neg]
    have h3 := paidGo_mono ps (l.drop k) (fun x hx => h2 x (List.mem_of_mem_drop hx)) (paidGo ps (l.take k))
    have e : (l.drop k).foldl (paidStep ps) (paidGo ps (l.take k)) = paidGo ps l := by
      unfold paidGo
      rw [← List.foldl_append, List.take_append_drop]
    rw [e] at h3
    omega
  · rfl
theorem paid_all {l : List Bl} {ps : List Int} (h : ∀ (j : Nat) (r : Bl), j < l.length → l[j]? = some r → r.good = true) : billsPaid l ps = if (paidGo ps l).1 ≤ 1125899906842624 then (paidGo ps l).1 else 0 := by
  unfold billsPaid
  rw [if_pos]
  rw [List.all_eq_true]
  intro x hx
  obtain ⟨j, hj⟩ := List.mem_iff_getElem?.1 hx
  exact h j x (List.getElem?_eq_some_iff.1 hj).1 hj
theorem good_step {l : List Bl} {k : Nat} {r : Bl} (h : ∀ (j : Nat) (r : Bl), j < k → l[j]? = some r → r.good = true) (hr : l[k]? = some r) (hg : r.good = true) : ∀ (j : Nat) (r : Bl), j < k + 1 → l[j]? = some r → r.good = true := by
  intro j q hj hq
  rcases Nat.lt_or_ge j k with hlt | hge
  · exact h j q hlt hq
  · obtain rfl : j = k := by omega
    rw [hr] at hq
    obtain rfl := Option.some.inj hq
    exact hg

set_option maxHeartbeats 4000000 in
theorem billsPaid_impl (a : Option Addr) (len cap : Nat) (a' : Option Addr) (len' cap' : Nat) (l : List Bl) (ps : List Int) (w : World) (S0 : BlS w w.heap.size a len l) (S1 : IS w w.heap.size a' len' ps) (hlen : len ≤ 1048576) :
    Calls Tryd.prog 28 #[.slice a len cap, .slice a' len' cap'] w fun e w' => e = .returned (.int .i64 (billsPaid l ps)) ∧ Below w.heap.size w w' := by
  have hl' := S1.len
  go_enter Tryd.func28, Tryd.ntmps28
  go_wp2
  go_loopw [5, 6, 8, 13] (fun t v _ i wr => ∃ (k : Nat) (T sum : Int) (seen : List Int), k ≤ len ∧ i = .int .i64 k ∧ t = .int .i64 T ∧ Hid (paidGo ps (l.take k) = (sum, seen)) ∧ Hid (∀ (j : Nat) (r : Bl), j < k → l[j]? = some r → r.good = true) ∧ 0 ≤ T ∧ T ≤ 2251799813685248 ∧ Hid ((sum ≤ 1125899906842624 ∧ T = sum) ∨ (1125899906842624 < sum ∧ 1125899906842624 < T)) ∧ seen.length ≤ k ∧ Hid (∀ y ∈ seen, I64 y) ∧ OwnI wr w.heap.size v seen ∧ Below w.heap.size w wr) (fun _ _ _ i _ => len - (intOf i).toNat)
  case atStart => exact ⟨0, 0, 0, [], Nat.zero_le _, rfl, rfl, rfl, fun j r h => by omega, by omega, by omega, Or.inl ⟨by omega, rfl⟩, Nat.le_refl _, by simp [Hid], OwnI.nil _ _, Below.refl _ _⟩
  case round =>
    obtain ⟨k, T, sum, seen, hk, rfl, rfl, hgo, hok, hT0, hT1, hT2, hsl, hsb, hown, hB⟩ := hrel
    by_cases hlt : k < len
    · obtain ⟨g, off, bi, bp, ba, bm, bd, bs, rfl, hg, c0, c1, c2, c3, c4, c5, o0, o1, o2, o3, o4, o5, hx, hxs⟩ := BlS.cells (FS.keep S0 hB) hlt
      have hs5 : bs.size ≤ 9223372036854775807 := o5
      have Hbi := Lib.hid o0
      clear o0 o1 o2 o3 o4 o5
      obtain ⟨a2, c2', hv, o2⟩ := OwnI.oi hown hsb.out
      subst hv
      have J1 := IS.keep (S1.keep hB) (below_alloc (Below.refl _ _) (.cells #[.int .i64 bi, .int .i64 bp, .int .i64 ba, .int .i64 bm, .int .i64 bd, .string bs] 42))
      have J2 := IS.keep o2.is (below_alloc (Below.refl _ _) (.cells #[.int .i64 bi, .int .i64 bp, .int .i64 ba, .int .i64 bm, .int .i64 bd, .string bs] 42))
      by_cases hg1 : billOk bi bp ba bm bd bs = true
      · have Hall := Lib.hid (good_step hok.out hx.out hg1)
        have hba := Bl.good_amt (r := ⟨bi, bp, ba, bm, bd, bs⟩) hg1
        dsimp only at hba
        clear hok hx
        rcases Bool.eq_false_or_eq_true (hasB ps bi) with hp1 | hp1
        · rcases Bool.eq_false_or_eq_true (hasB seen bi) with hp2 | hp2
          · have Hgo : Hid (paidGo ps (l.take (k + 1)) = (sum, seen)) := by unfold Hid; rw [hxs.out, paidGo_snoc, hgo.out]; unfold paidStep; rw [if_neg (by simp [hp2])]
            clear hgo
            go_wp2_with (first | (go_at_call 48; refine (billOk_impl _ _ _ _ _ _ _ hs5).mono ?_; rintro e w1 ⟨rfl, hb1⟩; have I1 := (IS.keep J1 hb1); have I2 := IS.keep J2 hb1; obtain ⟨hc1, hf1, hs1, hz1⟩ := brules hb1) | (go_at_call_of 63 (Value.slice a' len' cap'); refine (hasInt_impl _ _ _ _ ps _ I1).mono ?_; rintro e w2 ⟨rfl, rfl⟩) | (go_at_call_of 63 (Value.slice a2 seen.length c2'); refine (hasInt_impl _ _ _ _ seen _ I2).mono ?_; rintro e w2 ⟨rfl, rfl⟩))
            go_roundw
            case rel => exact ⟨k + 1, T, sum, seen, by omega, by go_num, rfl, Hgo, Hall, hT0, hT1, hT2, by omega, hsb, (o2.keep (below_via hb1 (below_alloc (Below.refl _ _) _))).1, hB.trans ((below_via hb1 (below_alloc (Below.refl _ _) _)).mono hB.size)⟩
            case measure => simp [intOf]; omega
          · have Hgo : Hid (paidGo ps (l.take (k + 1)) = (sum + ba, seen ++ [bi])) := by unfold Hid; rw [hxs.out, paidGo_snoc, hgo.out]; unfold paidStep; rw [if_pos ⟨hp1, hp2⟩]
            clear hgo
            by_cases hT : T ≤ 1125899906842624
            · go_wp2_with (first | (go_at_call 48; refine (billOk_impl _ _ _ _ _ _ _ hs5).mono ?_; rintro e w1 ⟨rfl, hb1⟩; have I1 := (IS.keep J1 hb1); have I2 := IS.keep J2 hb1; obtain ⟨hc1, hf1, hs1, hz1⟩ := brules hb1) | (go_at_call_of 63 (Value.slice a' len' cap'); refine (hasInt_impl _ _ _ _ ps _ I1).mono ?_; rintro e w2 ⟨rfl, rfl⟩) | (go_at_call_of 63 (Value.slice a2 seen.length c2'); refine (hasInt_impl _ _ _ _ seen _ I2).mono ?_; rintro e w2 ⟨rfl, rfl⟩)| (at_builtin; refine wpList_append_int_g rfl _ _ rfl w.heap.size _ _ rfl ((o2.keep (below_via hb1 (below_alloc (Below.refl _ _) _))).1.alloc _) _ _ rfl (new_cell0 _ _ _) (by omega) (Nat.le_trans (Nat.le_trans hB.size (below_via hb1 (below_alloc (Below.refl _ _) _)).size) (size_alloc_le _ _)) ?_))
              intro v3 w3 hown4 hB4 hG
              have q0 : (w1.alloc (.cells #[.int .i64 bi] 3)).cell? ⟨wr.heap.size, 2, none⟩ = some (.int .i64 ba) := cell_keep (below_alloc (Below.refl _ _) _) (cell_keep hb1 (by simp [go_sem]))
              have q1 := hG.cell q0 (OI.own_ne o2 (OI.lt o2) (Nat.le_refl _))
              clear q0
              go_wp2
              go_roundw
              case rel => exact ⟨k + 1, T + ba, sum + ba, seen ++ [bi], by omega, by go_num, rfl, Hgo, Hall, by omega, by omega, by unfold Hid; have := hT2.out; omega, by simp; omega, (by intro z hz; simp at hz; rcases hz with hz | rfl; exact hsb.out z hz; exact Hbi.out), hown4, (below_alloc (hB.trans ((below_via hb1 (below_alloc (Below.refl _ _) _)).mono hB.size)) _).trans hB4⟩
              case measure => simp [intOf]; omega
            · go_wp2_with (first | (go_at_call 48; refine (billOk_impl _ _ _ _ _ _ _ hs5).mono ?_; rintro e w1 ⟨rfl, hb1⟩; have I1 := (IS.keep J1 hb1); have I2 := IS.keep J2 hb1; obtain ⟨hc1, hf1, hs1, hz1⟩ := brules hb1) | (go_at_call_of 63 (Value.slice a' len' cap'); refine (hasInt_impl _ _ _ _ ps _ I1).mono ?_; rintro e w2 ⟨rfl, rfl⟩) | (go_at_call_of 63 (Value.slice a2 seen.length c2'); refine (hasInt_impl _ _ _ _ seen _ I2).mono ?_; rintro e w2 ⟨rfl, rfl⟩)| (at_builtin; refine wpList_append_int_g rfl _ _ rfl w.heap.size _ _ rfl ((o2.keep (below_via hb1 (below_alloc (Below.refl _ _) _))).1.alloc _) _ _ rfl (new_cell0 _ _ _) (by omega) (Nat.le_trans (Nat.le_trans hB.size (below_via hb1 (below_alloc (Below.refl _ _) _)).size) (size_alloc_le _ _)) ?_))
              intro v3 w3 hown4 hB4 hG
              have q0 : (w1.alloc (.cells #[.int .i64 bi] 3)).cell? ⟨wr.heap.size, 2, none⟩ = some (.int .i64 ba) := cell_keep (below_alloc (Below.refl _ _) _) (cell_keep hb1 (by simp [go_sem]))
              have q1 := hG.cell q0 (OI.own_ne o2 (OI.lt o2) (Nat.le_refl _))
              clear q0
              go_wp2
              go_roundw
              case rel => exact ⟨k + 1, T, sum + ba, seen ++ [bi], by omega, by go_num, rfl, Hgo, Hall, by omega, by omega, by unfold Hid; have := hT2.out; omega, by simp; omega, (by intro z hz; simp at hz; rcases hz with hz | rfl; exact hsb.out z hz; exact Hbi.out), hown4, (below_alloc (hB.trans ((below_via hb1 (below_alloc (Below.refl _ _) _)).mono hB.size)) _).trans hB4⟩
              case measure => simp [intOf]; omega
        · have Hgo : Hid (paidGo ps (l.take (k + 1)) = (sum, seen)) := by unfold Hid; rw [hxs.out, paidGo_snoc, hgo.out]; unfold paidStep; rw [if_neg (by simp [hp1])]
          clear hgo
          go_wp2_with (first | (go_at_call 48; refine (billOk_impl _ _ _ _ _ _ _ hs5).mono ?_; rintro e w1 ⟨rfl, hb1⟩; have I1 := (IS.keep J1 hb1); have I2 := IS.keep J2 hb1; obtain ⟨hc1, hf1, hs1, hz1⟩ := brules hb1) | (go_at_call_of 63 (Value.slice a' len' cap'); refine (hasInt_impl _ _ _ _ ps _ I1).mono ?_; rintro e w2 ⟨rfl, rfl⟩) | (go_at_call_of 63 (Value.slice a2 seen.length c2'); refine (hasInt_impl _ _ _ _ seen _ I2).mono ?_; rintro e w2 ⟨rfl, rfl⟩))
          go_roundw
          case rel => exact ⟨k + 1, T, sum, seen, by omega, by go_num, rfl, Hgo, Hall, hT0, hT1, hT2, by omega, hsb, (o2.keep (below_via hb1 (below_alloc (Below.refl _ _) _))).1, hB.trans ((below_via hb1 (below_alloc (Below.refl _ _) _)).mono hB.size)⟩
          case measure => simp [intOf]; omega
      · have Hf := Lib.hid (paid_bad (ps := ps) hx.out (by simpa [Bl.good] using hg1))
        clear hok hx hxs hgo
        go_wp2_with (first | (go_at_call 48; refine (billOk_impl _ _ _ _ _ _ _ hs5).mono ?_; rintro e w1 ⟨rfl, hb1⟩; have I1 := (IS.keep J1 hb1); have I2 := IS.keep J2 hb1; obtain ⟨hc1, hf1, hs1, hz1⟩ := brules hb1) | (go_at_call_of 63 (Value.slice a' len' cap'); refine (hasInt_impl _ _ _ _ ps _ I1).mono ?_; rintro e w2 ⟨rfl, rfl⟩) | (go_at_call_of 63 (Value.slice a2 seen.length c2'); refine (hasInt_impl _ _ _ _ seen _ I2).mono ?_; rintro e w2 ⟨rfl, rfl⟩))
        go_ret
        exact ⟨ret_int (by rw [Hf.out]), hB.trans ((below_via hb1 (below_alloc (Below.refl _ _) _)).mono hB.size)⟩
    · have hall := paid_all (ps := ps) (fun j r hj hr => hok.out j r (by have := S0.1; omega) hr)
      rw [S0.all (k := k) (by omega)] at hgo
      rw [hgo.out] at hall
      have Hall := Lib.hid hall
      clear hall
      rcases hT2.out with ⟨h1, h2⟩ | ⟨h1, h2⟩
      · have t1 : amtOk T = true := decide_eq_true (by omega)
        have H2 := Lib.hid h2
        clear h2
        go_wp2_with (((go_at_call 62; refine (amt_impl _ _).mono ?_); rintro e w1 ⟨rfl, rfl⟩))
        go_ret
        exact ⟨ret_int (by rw [Hall.out, if_pos h1, H2.out]), hB⟩
      · have t1 : amtOk T = false := decide_eq_false (by omega)
        go_wp2_with (((go_at_call 62; refine (amt_impl _ _).mono ?_); rintro e w1 ⟨rfl, rfl⟩))
        go_ret
        exact ⟨ret_int (by rw [Hall.out, if_neg (by show ¬ sum ≤ _; omega)]), hB⟩

end Go.Proofs.YtegnlijgjcfmlaaDoor
