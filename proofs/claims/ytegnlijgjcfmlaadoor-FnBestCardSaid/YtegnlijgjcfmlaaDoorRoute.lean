/- Routes: the plain functions. -/
import Derived.Test.YtegnlijgjcfmlaaDoorRoad
import Derived.Test.YtegnlijgjcfmlaaDoorHas
import Derived.Test.YtegnlijgjcfmlaaDoorIntsW
namespace Go.Proofs.YtegnlijgjcfmlaaDoor
open Go.RowKit
set_option linter.unusedVariables false
set_option linter.unusedSimpArgs false

theorem IS.drewN {w : World} {a : Option Addr} {len : Nat} {xs : List Int} (h : IS w w.heap.size a len xs) (n : Nat) : IS (w.drewN n) (w.drewN n).heap.size a len xs := h
theorem OwnI.drewN {w : World} {B : Nat} {v : Value} {xs : List Int} (h : OwnI w B v xs) (n : Nat) : OwnI (w.drewN n) B v xs := h
def headR (ps : List Int) (f : Int) : List Int := if ps = [] then [f] else ps
def stepR (l : List Rd) (ps : List Int) (x : Int) : Option (List Int) :=
  if 0 ≤ x then
    match l[x.toNat]? with
    | none => none
    | some r => if (headR ps r.f).getLast? = some r.f ∧ hasB (headR ps r.f) r.t = false then some (headR ps r.f ++ [r.t]) else none
  else none
def goR (l : List Rd) : List Int → List Int → Option (List Int)
  | ps, [] => some ps
  | ps, x :: xs => (stepR l ps x).bind fun ps' => goR l ps' xs
theorem goR_append (l : List Rd) : ∀ (a b ps : List Int), goR l ps (a ++ b) = (goR l ps a).bind fun ps' => goR l ps' b
  | [], b, ps => rfl
  | x :: a, b, ps => by
    show (stepR l ps x).bind _ = ((stepR l ps x).bind _).bind _
    cases h : stepR l ps x with
    | none => rfl
    | some q => exact goR_append l a b q
def routeB (l : List Rd) (xs : List Int) : Bool := decide (1 ≤ xs.length ∧ xs.length ≤ 8) && (goR l [] xs).isSome
theorem routeB_bad {l : List Rd} {xs ps : List Int} {k : Nat} {x : Int} (h : goR l [] (xs.take k) = some ps) (hx : xs[k]? = some x) (hs : stepR l ps x = none) : routeB l xs = false := by
  have hk := (List.getElem?_eq_some_iff.1 hx)
  have e : xs = xs.take k ++ x :: xs.drop (k + 1) := by
    rw [← hk.2, ← List.drop_eq_getElem_cons hk.1, List.take_append_drop]
  have : goR l [] xs = none := by
    rw [e, goR_append, h]
    show (stepR l ps x).bind _ = none
    rw [hs]; rfl
  simp [routeB, this]
theorem goR_step {l : List Rd} {xs ps ps' : List Int} {k : Nat} {x : Int} (h : goR l [] (xs.take k) = some ps) (hx : xs.take (k + 1) = xs.take k ++ [x]) (hs : stepR l ps x = some ps') : goR l [] (xs.take (k + 1)) = some ps' := by
  rw [hx, goR_append, h]
  show (stepR l ps x).bind _ = _
  rw [hs]; rfl
theorem stepR_in {l : List Rd} {ps : List Int} {i : Nat} {r : Rd} (h : l[i]? = some r) : stepR l ps (i : Int) = if (headR ps r.f).getLast? = some r.f ∧ hasB (headR ps r.f) r.t = false then some (headR ps r.f ++ [r.t]) else none := by
  unfold stepR
  rw [if_pos (by omega)]
  simp [h]
theorem stepR_out {l : List Rd} {ps : List Int} {x : Int} (h : inB x 0 ((l.length : Int) - 1) = false) : stepR l ps x = none := by
  have hb := inB_f h
  unfold stepR
  by_cases h0 : 0 ≤ x
  · rw [if_pos h0, List.getElem?_eq_none (by omega)]
  · rw [if_neg h0]
theorem getLast_at (ps : List Int) (n : Nat) (h : ps.length = n + 1) : ps.getLast? = ps[n]? := by rw [List.getLast?_eq_getElem?, h]; rfl

set_option maxHeartbeats 4000000 in
theorem routeOk_impl (a : Option Addr) (len cap : Nat) (a' : Option Addr) (len' cap' : Nat) (l : List Rd) (xs : List Int) (w : World) (hs : RdS w w.heap.size a len l) (hs' : IS w w.heap.size a' len' xs) :
    Calls Tryd.prog 107 #[.slice a len cap, .slice a' len' cap'] w fun e w' => e = .returned (.bool (routeB l xs)) ∧ Below w.heap.size w w' := by
  have hl := hs.lenB
  have hl' := hs'.len
  have Hln := Lib.hid hs.1
  have Hln' := Lib.hid hs'.1
  by_cases h8 : inB len' 1 8 = true
  · have h8b := inB_t h8
    go_enter Tryd.func107, Tryd.ntmps107
    go_wp2_with (((first | (go_at_call 39; refine (in_impl _ _ _ _).mono ?_) | (go_at_call 63; refine (hasInt_impl _ _ _ _ _ _ (by (first | (with_reducible assumption) | (with_reducible exact OI.is (by assumption)) | (refine IS.keep (by with_reducible assumption) ?_; (repeat (first | (with_reducible assumption) | (with_reducible exact Below.refl _ _) | (with_reducible refine Below.setCell ?_ (by first | (simp; done) | (simp [*]; done)) _) | (with_reducible refine below_alloc ?_ _) | (with_reducible refine Below.drew ?_) | (with_reducible refine below_drewN ?_)))) | (refine OI.is (OI.keep (by with_reducible assumption) ?_); (repeat (first | (with_reducible assumption) | (with_reducible exact Below.refl _ _) | (with_reducible refine Below.setCell ?_ (by first | (simp; done) | (simp [*]; done)) _) | (with_reducible refine below_alloc ?_ _) | (with_reducible refine Below.drew ?_) | (with_reducible refine below_drewN ?_))))))).mono ?_)); rintro e w1 ⟨rfl, rfl⟩))
    go_loopw [5, 6, 7, 14] (fun v _ _ i wr => ∃ (k : Nat) (ps : List Int), k ≤ len' ∧ i = .int .i64 k ∧ Hid (goR l [] (xs.take k) = some ps) ∧ Hid (ps.length = if k = 0 then 0 else k + 1) ∧ Hid (∀ y ∈ ps, I64 y) ∧ OwnI wr w.heap.size v ps ∧ Below w.heap.size w wr) (fun _ _ _ i _ => len' - (intOf i).toNat)
    case atStart => exact ⟨0, [], Nat.zero_le _, rfl, rfl, rfl, by simp [Hid], OwnI.nil _ _, Below.refl _ _⟩
    case round =>
      obtain ⟨k, ps, hk, rfl, hgo, hpl, hpb, hown, hB⟩ := hrel
      by_cases hlt : k < len'
      · obtain ⟨b', off', x, rfl, hb', hc', hbd', hx, hxs⟩ := (hs'.keep hB).at_ hlt
        by_cases hin : inB x 0 ((len : Int) - 1) = true
        · have hinb := inB_t hin
          obtain ⟨i, rfl⟩ := Int.eq_ofNat_of_zero_le hinb.1
          have hil : i < len := by omega
          obtain ⟨g, off, rf, rt, rb, rp, rc, rfl, hg, e0, e1, c2, c3, c4, o0, o1, o2, o3, o4, hr, _⟩ := RdS.cells hs hil
          have c0 := cell_keep hB e0
          have c1 := cell_keep hB e1
          clear c2 c3 c4 o2 o3 o4
          have Hstep := Lib.hid (stepR_in (ps := ps) hr.out)
          have Hri := Lib.hid o0
          have Hti := Lib.hid o1
          clear o0 o1
          rcases Nat.eq_zero_or_pos k with hk0 | hk0
          · subst hk0
            simp only [Nat.add_zero] at hc'
            have hps : ps = [] := List.eq_nil_of_length_eq_zero hpl.out
            subst hps
            have hhd : headR [] rf = [rf] := rfl
            have hq : (rf != rf) = false := by simp
            by_cases hh : hasB [rf] rt = true
            · have Hf := Lib.hid (routeB_bad hgo.out hx.out (by rw [Hstep.out, hhd]; simp [hh]))
              clear hhd
              go_wp2_with (first | (at_builtin; refine wpList_append_int rfl _ _ rfl w.heap.size _ _ rfl (hown.alloc _) _ _ rfl (new_cell0 _ _ _) (by simp) (Nat.le_trans hB.size (size_alloc_le _ _)) ?_) | ((first | (go_at_call 39; refine (in_impl _ _ _ _).mono ?_) | (go_at_call 63; refine (hasInt_impl _ _ _ _ _ _ (by (first | (with_reducible assumption) | (with_reducible exact OI.is (by assumption)) | (refine IS.keep (by with_reducible assumption) ?_; (repeat (first | (with_reducible assumption) | (with_reducible exact Below.refl _ _) | (with_reducible refine Below.setCell ?_ (by first | (simp; done) | (simp [*]; done)) _) | (with_reducible refine below_alloc ?_ _) | (with_reducible refine Below.drew ?_) | (with_reducible refine below_drewN ?_)))) | (refine OI.is (OI.keep (by with_reducible assumption) ?_); (repeat (first | (with_reducible assumption) | (with_reducible exact Below.refl _ _) | (with_reducible refine Below.setCell ?_ (by first | (simp; done) | (simp [*]; done)) _) | (with_reducible refine below_alloc ?_ _) | (with_reducible refine Below.drew ?_) | (with_reducible refine below_drewN ?_))))))).mono ?_)); rintro e w1 ⟨rfl, rfl⟩))
              intro v' w2 hown2 hB2
              obtain ⟨a2, c2, hv, o2⟩ := OwnI.oi (xs := [rf]) hown2 (by intro z hz; simp at hz; subst hz; exact Hri.out)
              simp only [List.length_singleton] at hv o2
              subst hv
              have his := o2.is
              obtain ⟨b2, off2, y, rfl, hb2, hcy, hyb, hy, _⟩ := his.at_ (show 0 < 1 by omega)
              obtain rfl : rf = y := by simpa using hy.out
              have hB3 := (below_alloc hB (.cells #[.int .i64 rf] 3)).trans hB2
              have d0 := cell_keep hB3 e0
              have d1 := cell_keep hB3 e1
              simp only [Nat.add_zero] at hcy
              clear hy
              go_wp2
              go_quiet ((go_at_call 63; exact Calls.quiet_of_same ((hasInt_impl _ _ _ _ _ _ (IS.drewN his _)).mono fun _ _ h => ⟨h.1, h.2.symm⟩)))
              go_wp2
              go_ret
              exact ⟨ret_bool (by rw [Hf.out]), below_drewN hB3⟩
            · have hq2 : hasB [rf] rt = false := by simpa using hh
              have Hnext : Hid (goR l [] (xs.take (0 + 1)) = some [rf, rt]) := goR_step hgo.out hxs.out (by rw [Hstep.out, hhd]; simp [hq2])
              clear hhd
              go_wp2_with (first | (at_builtin; refine wpList_append_int rfl _ _ rfl w.heap.size _ _ rfl (hown.alloc _) _ _ rfl (new_cell0 _ _ _) (by simp) (Nat.le_trans hB.size (size_alloc_le _ _)) ?_) | ((first | (go_at_call 39; refine (in_impl _ _ _ _).mono ?_) | (go_at_call 63; refine (hasInt_impl _ _ _ _ _ _ (by (first | (with_reducible assumption) | (with_reducible exact OI.is (by assumption)) | (refine IS.keep (by with_reducible assumption) ?_; (repeat (first | (with_reducible assumption) | (with_reducible exact Below.refl _ _) | (with_reducible refine Below.setCell ?_ (by first | (simp; done) | (simp [*]; done)) _) | (with_reducible refine below_alloc ?_ _) | (with_reducible refine Below.drew ?_) | (with_reducible refine below_drewN ?_)))) | (refine OI.is (OI.keep (by with_reducible assumption) ?_); (repeat (first | (with_reducible assumption) | (with_reducible exact Below.refl _ _) | (with_reducible refine Below.setCell ?_ (by first | (simp; done) | (simp [*]; done)) _) | (with_reducible refine below_alloc ?_ _) | (with_reducible refine Below.drew ?_) | (with_reducible refine below_drewN ?_))))))).mono ?_)); rintro e w1 ⟨rfl, rfl⟩))
              intro v' w2 hown2 hB2
              obtain ⟨a2, c2, hv, o2⟩ := OwnI.oi (xs := [rf]) hown2 (by intro z hz; simp at hz; subst hz; exact Hri.out)
              simp only [List.length_singleton] at hv o2
              subst hv
              have his := o2.is
              obtain ⟨b2, off2, y, rfl, hb2, hcy, hyb, hy, _⟩ := his.at_ (show 0 < 1 by omega)
              obtain rfl : rf = y := by simpa using hy.out
              have hB3 := (below_alloc hB (.cells #[.int .i64 rf] 3)).trans hB2
              have d0 := cell_keep hB3 e0
              have d1 := cell_keep hB3 e1
              simp only [Nat.add_zero] at hcy
              clear hy hown hown2
              go_wp2
              go_quiet ((go_at_call 63; exact Calls.quiet_of_same ((hasInt_impl _ _ _ _ _ _ (IS.drewN his _)).mono fun _ _ h => ⟨h.1, h.2.symm⟩)))
              have hown3 := OwnI.drewN o2.1 nq
              go_wp2_with (at_builtin; refine wpList_append_int rfl _ _ rfl w.heap.size _ _ rfl (hown3.alloc _) _ _ rfl (new_cell0 _ _ _) (by simp) (Nat.le_trans hB3.size (size_alloc_le _ _)) ?_)
              intro v3 w3 hown4 hB4
              go_wp2
              go_roundw
              case rel => exact ⟨0 + 1, [rf, rt], by omega, by go_num, Hnext.out, rfl, (by intro z hz; simp at hz; rcases hz with rfl | rfl; exact Hri.out; exact Hti.out), hown4, (below_alloc (below_drewN hB3) _).trans hB4⟩
              case measure => simp [intOf]; omega
          · have hpl2 : ps.length = k + 1 := by have := hpl.out; rw [if_neg (by omega)] at this; exact this
            have hlast := getLast_at ps k hpl2
            obtain ⟨a2, c2, hv, o2⟩ := OwnI.oi hown hpb.out
            rw [hpl2] at hv o2
            subst hv
            have his := o2.is
            have Hpl := Lib.hid hpl2
            obtain ⟨b2, off2, y, rfl, hb2, hcy, hyb, hy, _⟩ := his.at_ (show k < k + 1 by omega)
            rw [hy.out] at hlast
            have hne : ps ≠ [] := by intro h; rw [h] at hpl2; simp at hpl2
            have hhd : headR ps rf = ps := if_neg hne
            rw [hhd, hlast] at Hstep
            clear hlast hne hhd hpl hpl2 hy
            by_cases hyr : y = rf
            · have hq : (rf != y) = false := by simp [hyr]
              by_cases hh : hasB ps rt = true
              · have Hf := Lib.hid (routeB_bad hgo.out hx.out (by rw [Hstep.out]; simp [hh]))
                clear hyr
                go_wp2_with (((first | (go_at_call 39; refine (in_impl _ _ _ _).mono ?_) | (go_at_call 63; refine (hasInt_impl _ _ _ _ _ _ (by (first | (with_reducible assumption) | (with_reducible exact OI.is (by assumption)) | (refine IS.keep (by with_reducible assumption) ?_; (repeat (first | (with_reducible assumption) | (with_reducible exact Below.refl _ _) | (with_reducible refine Below.setCell ?_ (by first | (simp; done) | (simp [*]; done)) _) | (with_reducible refine below_alloc ?_ _) | (with_reducible refine Below.drew ?_) | (with_reducible refine below_drewN ?_)))) | (refine OI.is (OI.keep (by with_reducible assumption) ?_); (repeat (first | (with_reducible assumption) | (with_reducible exact Below.refl _ _) | (with_reducible refine Below.setCell ?_ (by first | (simp; done) | (simp [*]; done)) _) | (with_reducible refine below_alloc ?_ _) | (with_reducible refine Below.drew ?_) | (with_reducible refine below_drewN ?_))))))).mono ?_)); rintro e w1 ⟨rfl, rfl⟩))
                go_quiet ((go_at_call 63; exact Calls.quiet_of_same ((hasInt_impl _ _ _ _ _ _ (IS.drewN his _)).mono fun _ _ h => ⟨h.1, h.2.symm⟩)))
                go_wp2
                go_ret
                exact ⟨ret_bool (by rw [Hf.out]), below_drewN hB⟩
              · have hq2 : hasB ps rt = false := by simpa using hh
                have Hnext : Hid (goR l [] (xs.take (k + 1)) = some (ps ++ [rt])) := goR_step hgo.out hxs.out (by rw [Hstep.out]; simp [hq2, hyr])
                clear hyr hh
                go_wp2_with (((first | (go_at_call 39; refine (in_impl _ _ _ _).mono ?_) | (go_at_call 63; refine (hasInt_impl _ _ _ _ _ _ (by (first | (with_reducible assumption) | (with_reducible exact OI.is (by assumption)) | (refine IS.keep (by with_reducible assumption) ?_; (repeat (first | (with_reducible assumption) | (with_reducible exact Below.refl _ _) | (with_reducible refine Below.setCell ?_ (by first | (simp; done) | (simp [*]; done)) _) | (with_reducible refine below_alloc ?_ _) | (with_reducible refine Below.drew ?_) | (with_reducible refine below_drewN ?_)))) | (refine OI.is (OI.keep (by with_reducible assumption) ?_); (repeat (first | (with_reducible assumption) | (with_reducible exact Below.refl _ _) | (with_reducible refine Below.setCell ?_ (by first | (simp; done) | (simp [*]; done)) _) | (with_reducible refine below_alloc ?_ _) | (with_reducible refine Below.drew ?_) | (with_reducible refine below_drewN ?_))))))).mono ?_)); rintro e w1 ⟨rfl, rfl⟩))
                go_quiet ((go_at_call 63; exact Calls.quiet_of_same ((hasInt_impl _ _ _ _ _ _ (IS.drewN his _)).mono fun _ _ h => ⟨h.1, h.2.symm⟩)))
                have hown3 := OwnI.drewN o2.1 nq
                have hlp : ps.length ≤ 1099511627776 := by have := Hpl.out; omega
                go_wp2_with (at_builtin; refine wpList_append_int rfl _ _ rfl w.heap.size _ _ rfl (hown3.alloc _) _ _ rfl (new_cell0 _ _ _) hlp (Nat.le_trans hB.size (size_alloc_le _ _)) ?_)
                intro v3 w3 hown4 hB4
                go_wp2
                go_roundw
                case rel => exact ⟨k + 1, ps ++ [rt], by omega, by go_num, Hnext.out, (by unfold Hid; rw [if_neg (by omega)]; simp [Hpl.out]), (by intro z hz; simp at hz; rcases hz with hz | rfl; exact hpb.out z hz; exact Hti.out), hown4, (below_alloc (below_drewN hB) _).trans hB4⟩
                case measure => simp [intOf]; omega
            · have hq : (rf != y) = true := by simp; exact fun h => hyr h.symm
              have Hf := Lib.hid (routeB_bad hgo.out hx.out (by rw [Hstep.out]; simp [hyr]))
              clear hyr
              go_wp2_with (((first | (go_at_call 39; refine (in_impl _ _ _ _).mono ?_) | (go_at_call 63; refine (hasInt_impl _ _ _ _ _ _ (by (first | (with_reducible assumption) | (with_reducible exact OI.is (by assumption)) | (refine IS.keep (by with_reducible assumption) ?_; (repeat (first | (with_reducible assumption) | (with_reducible exact Below.refl _ _) | (with_reducible refine Below.setCell ?_ (by first | (simp; done) | (simp [*]; done)) _) | (with_reducible refine below_alloc ?_ _) | (with_reducible refine Below.drew ?_) | (with_reducible refine below_drewN ?_)))) | (refine OI.is (OI.keep (by with_reducible assumption) ?_); (repeat (first | (with_reducible assumption) | (with_reducible exact Below.refl _ _) | (with_reducible refine Below.setCell ?_ (by first | (simp; done) | (simp [*]; done)) _) | (with_reducible refine below_alloc ?_ _) | (with_reducible refine Below.drew ?_) | (with_reducible refine below_drewN ?_))))))).mono ?_)); rintro e w1 ⟨rfl, rfl⟩))
              go_quiet ((go_at_call 63; exact Calls.quiet_of_same ((hasInt_impl _ _ _ _ _ _ (IS.drewN his _)).mono fun _ _ h => ⟨h.1, h.2.symm⟩)))
              go_wp2
              go_ret
              exact ⟨ret_bool (by rw [Hf.out]), below_drewN hB⟩
        · have Hf := Lib.hid (routeB_bad hgo.out hx.out (stepR_out (by rw [Hln.out]; simpa using hin)))
          go_wp2_with (((first | (go_at_call 39; refine (in_impl _ _ _ _).mono ?_) | (go_at_call 63; refine (hasInt_impl _ _ _ _ _ _ (by (first | (with_reducible assumption) | (with_reducible exact OI.is (by assumption)) | (refine IS.keep (by with_reducible assumption) ?_; (repeat (first | (with_reducible assumption) | (with_reducible exact Below.refl _ _) | (with_reducible refine Below.setCell ?_ (by first | (simp; done) | (simp [*]; done)) _) | (with_reducible refine below_alloc ?_ _) | (with_reducible refine Below.drew ?_) | (with_reducible refine below_drewN ?_)))) | (refine OI.is (OI.keep (by with_reducible assumption) ?_); (repeat (first | (with_reducible assumption) | (with_reducible exact Below.refl _ _) | (with_reducible refine Below.setCell ?_ (by first | (simp; done) | (simp [*]; done)) _) | (with_reducible refine below_alloc ?_ _) | (with_reducible refine Below.drew ?_) | (with_reducible refine below_drewN ?_))))))).mono ?_)); rintro e w1 ⟨rfl, rfl⟩))
          go_ret
          exact ⟨ret_bool (by rw [Hf.out]), hB⟩
      · have e : k = len' := by omega
        subst e
        have Hr : Hid (routeB l xs = true) := by
          have h1 := hgo.out
          rw [hs'.all (Nat.le_refl _)] at h1
          unfold Hid
          rw [routeB, h1, Hln'.out]
          simp; omega
        go_wp2
        go_ret
        exact ⟨ret_bool (by rw [Hr.out]), hB⟩
  · have Hf : Hid (routeB l xs = false) := by
      have := Hln'.out
      have h9 := inB_f (by simpa using h8)
      unfold Hid
      rw [routeB, this]
      have : ¬ (1 ≤ len' ∧ len' ≤ 8) := by omega
      simp [this]
    go_enter Tryd.func107, Tryd.ntmps107
    go_wp2_with (((first | (go_at_call 39; refine (in_impl _ _ _ _).mono ?_) | (go_at_call 63; refine (hasInt_impl _ _ _ _ _ _ (by (first | (with_reducible assumption) | (with_reducible exact OI.is (by assumption)) | (refine IS.keep (by with_reducible assumption) ?_; (repeat (first | (with_reducible assumption) | (with_reducible exact Below.refl _ _) | (with_reducible refine Below.setCell ?_ (by first | (simp; done) | (simp [*]; done)) _) | (with_reducible refine below_alloc ?_ _) | (with_reducible refine Below.drew ?_) | (with_reducible refine below_drewN ?_)))) | (refine OI.is (OI.keep (by with_reducible assumption) ?_); (repeat (first | (with_reducible assumption) | (with_reducible exact Below.refl _ _) | (with_reducible refine Below.setCell ?_ (by first | (simp; done) | (simp [*]; done)) _) | (with_reducible refine below_alloc ?_ _) | (with_reducible refine Below.drew ?_) | (with_reducible refine below_drewN ?_))))))).mono ?_)); rintro e w1 ⟨rfl, rfl⟩))
    go_ret
    exact ⟨ret_bool (by rw [Hf.out]), Below.refl _ _⟩

end Go.Proofs.YtegnlijgjcfmlaaDoor
