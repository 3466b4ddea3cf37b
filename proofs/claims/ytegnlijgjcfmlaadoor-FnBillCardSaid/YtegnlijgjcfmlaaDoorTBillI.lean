/- Bills read: the program. -/
import Derived.Test.YtegnlijgjcfmlaaDoorTBill
import Derived.Deep.RegionHeld3
namespace Go.Proofs.YtegnlijgjcfmlaaDoor
open Go.RowKit
set_option linter.unusedVariables false
set_option linter.unusedSimpArgs false

theorem tbV_bad {l w0 w1 w2 w3 w4 w5 w6 w7 : List UInt8} (h : words l = [w0, w1, w2, w3, w4, w5, w6, w7]) (hn : numsOk [S w1, S w2, S w3, S w4, S w5] = false) : tbV l = tbBad := by
  rw [tbV_eq h, if_neg]
  intro h2
  unfold tbOk at h2
  rw [Bool.and_eq_true] at h2
  have h3 : numsOk [S w1, S w2, S w3, S w4, S w5] = true := by
    have := h2.1
    simp only [Bool.and_eq_true] at this
    simp only [numsOk, List.all_cons, List.all_nil, Bool.and_eq_true]
    show (tnum w1).isSome = true ∧ (tnum w2).isSome = true ∧ (tnum w3).isSome = true ∧ (tnum w4).isSome = true ∧ (tnum w5).isSome = true ∧ True
    exact ⟨this.1.1.1.1, this.1.1.1.2, this.1.1.2, this.1.2, this.2, trivial⟩
  rw [hn] at h3
  cases h3

set_option maxRecDepth 100000 in
set_option maxHeartbeats 6400000 in
theorem textBill_impl (s : ByteArray) (hs : s.size ≤ 1048576) (w : World) (T0 : LV w) : Calls Tryd.prog 22 #[.string s] w fun e w' => e = .returned (tbV s.data.toList) ∧ Below w.heap.size w w' := by
  have hsl : s.data.toList.length = s.size := Array.length_toList
  by_cases h8 : (words s.data.toList).length = 8
  · obtain ⟨x0, x1, x2, x3, x4, x5, x6, x7, hw⟩ := listOf8 h8
    have hmem : ∀ x ∈ words s.data.toList, x.length ≤ 1048576 := fun x hx => by have := wordsGo_mem s.data.toList [] x hx; simp only [List.length_nil] at this; omega
    obtain ⟨V, hV⟩ : ∃ V, V = tbV s.data.toList := ⟨_, rfl⟩
    rw [← hV]
    have HV := Lib.hid hV
    have hok : ∀ y ∈ [S x0, S x1, S x2, S x3, S x4, S x5, S x6, S x7], y.size ≤ 1048576 := by
      intro y hy
      obtain ⟨x, hx, rfl⟩ : ∃ x ∈ [x0, x1, x2, x3, x4, x5, x6, x7], y = S x := by simp at hy; simp; exact hy
      rw [← hw] at hx
      have := hmem x hx
      simpa [S, ByteArray.size] using this
    have HK := Lib.hid hok
    have HS := Lib.hid hsl
    have Hw := Lib.hid hw
    have HNE : Hid ((s.data.toList == []) = false) := by
      refine beq_eq_false_iff_ne.2 fun h0 => ?_
      rw [h0] at hw
      cases hw
    clear hV h8 hmem hok hsl hw
    go_enter Tryd.func22, Tryd.ntmps22
    go_wp2_with fail
    refine (split_impl s hs _ (T0.keep (by (repeat (first | (with_reducible exact Below.refl _ _) | (with_reducible assumption) | (with_reducible refine Below.setCell ?_ ?side _; case side => first | (with_reducible exact Nat.le_refl _) | (simp; done) | (simp only [World.size_alloc, World.size_setCell, World.size_drew, World.heap_drewN] at *; omega)) | (with_reducible refine below_alloc ?_ _) | (with_reducible refine Below.drew ?_) | (with_reducible refine below_drewN ?_) | (with_reducible refine below_via (by assumption) ?_)))))).mono ?_
    rintro e w1 ⟨⟨v, rfl, hown⟩, b1⟩
    have T1 := T0.keep (below_via b1 (by (repeat (first | (with_reducible exact Below.refl _ _) | (with_reducible assumption) | (with_reducible refine Below.setCell ?_ ?side _; case side => first | (with_reducible exact Nat.le_refl _) | (simp; done) | (simp only [World.size_alloc, World.size_setCell, World.size_drew, World.heap_drewN] at *; omega)) | (with_reducible refine below_alloc ?_ _) | (with_reducible refine Below.drew ?_) | (with_reducible refine below_drewN ?_) | (with_reducible refine below_via (by assumption) ?_)))))
    rw [Hw.out] at hown
    obtain ⟨a, c, rfl, ho⟩ := OwnF.of (ok := fun s : ByteArray => s.size ≤ 1048576) hown HK.out
    have F : SS w1 w1.heap.size a 8 [S x0, S x1, S x2, S x3, S x4, S x5, S x6, S x7] := OF.fs lenS ho
    have hcap : 8 ≤ c := ho.capB
    have hc1 : ¬ c = 1 := by omega
    have hc2 : (6 : Int) ≤ (c : Int) := by omega
    clear hown ho
    obtain ⟨b, off, y, rfl, hb, -, -, -, -⟩ := FS.at_ F (k := 0) (by omega)
    have c6 := F.2.2.2 6 (S x6) rfl
    obtain ⟨b', off', e', -, hc⟩ := c6
    injection e' with e'
    injection e' with e1 e2
    subst e1
    subst e2
    have hc6 := hc 0 _ rfl
    simp only [Nat.reduceMul, Nat.add_zero] at hc6
    clear hc
    have F5 : SS w1 w1.heap.size (some ⟨b, off + 1, none⟩) 5 [S x1, S x2, S x3, S x4, S x5] := SS.sub F (i := 1) (n := 5) (by omega)
    obtain ⟨hc0, hf0, hs0, hz0⟩ := brules b1
    go_wp2_with fail
    refine (numbersOf_impl _ _ _ _ _ F5 T1 (by omega)).mono ?_
    rintro e w2 ⟨hE, b2⟩
    have B5x := below_via b2 b1
    have TW := T1.keep b2
    obtain ⟨hc1', hf1, hs1, hz1⟩ := brules b2
    have hbw := hs1 b hb
    rcases hE with ⟨hok5, v, rfl, hown⟩ | ⟨hno, rfl⟩
    · have hown5 : OwnI w2 w1.heap.size v [tg x1, tg x2, tg x3, tg x4, tg x5] := hown
      have hbd : ∀ n ∈ [tg x1, tg x2, tg x3, tg x4, tg x5], -1125899906842624 ≤ n ∧ n ≤ 1125899906842624 := by
        intro n hn
        simp at hn
        rcases hn with rfl | rfl | rfl | rfl | rfl <;> exact tnum_bd _
      obtain ⟨a5, c5, hv5, I5'⟩ := OwnI.is hown5 (fun n hn => by have := hbd n hn; omega)
      have I5 : IS w2 w2.heap.size a5 5 [tg x1, tg x2, tg x3, tg x4, tg x5] := I5'
      have hv5' : v = .slice a5 5 c5 := hv5
      subst hv5'
      clear I5' hv5 hown5 hown hbd hok5
      have hn1 : (noteOf x6).size ≤ 1048576 := noteOf_size (by rw [HS.out]; exact hs) (by rw [Hw.out]; simp)
      obtain ⟨g5, o5, q0, rfl, hb0, d0, -, hq0, -⟩ := IS.at_ I5 (k := 0) (by omega)
      cases hq0.out
      have d1 := IS.cell I5 1 (tg x2) rfl
      have d2 := IS.cell I5 2 (tg x3) rfl
      have d3 := IS.cell I5 3 (tg x4) rfl
      have d4 := IS.cell I5 4 (tg x5) rfl
      have hc6w : w2.cell? ⟨b, off + 6, none⟩ = some (.string (S x6)) := (hc1' b (off + 6) hb).trans hc6
      obtain ⟨t1, ht1⟩ : ∃ t, t = tg x1 := ⟨_, rfl⟩
      obtain ⟨t2, ht2⟩ : ∃ t, t = tg x2 := ⟨_, rfl⟩
      obtain ⟨t3, ht3⟩ : ∃ t, t = tg x3 := ⟨_, rfl⟩
      obtain ⟨t4, ht4⟩ : ∃ t, t = tg x4 := ⟨_, rfl⟩
      obtain ⟨t5, ht5⟩ : ∃ t, t = tg x5 := ⟨_, rfl⟩
      rw [← ht1] at d0
      rw [← ht2] at d1
      rw [← ht3] at d2
      rw [← ht4] at d3
      rw [← ht5] at d4
      simp only [Nat.add_zero] at d0
      have HT := Lib.hid (And.intro ht1 (And.intro ht2 (And.intro ht3 (And.intro ht4 ht5))))
      clear ht1 ht2 ht3 ht4 ht5
      obtain ⟨N, hN⟩ : ∃ N, N = noteOf x6 := ⟨_, rfl⟩
      rw [← hN] at hn1
      have hbt : Hid (bText (tg x1) (tg x2) (tg x3) (tg x4) (tg x5) (noteOf x6) = bText t1 t2 t3 t4 t5 N) := by unfold Hid; rw [hN, HT.out.1, HT.out.2.1, HT.out.2.2.1, HT.out.2.2.2.1, HT.out.2.2.2.2]
      have hV : Hid (V = if bText t1 t2 t3 t4 t5 N = s.data.toList then .tuple #[.agg #[.int .i64 t1, .int .i64 t2, .int .i64 t3, .int .i64 t4, .int .i64 t5, .string N], .bool true] else tbBad) := by
        unfold Hid
        rw [HV.out, tbV_eq Hw.out, tbOk_eq Hw.out, hbt.out, hN, HT.out.1, HT.out.2.1, HT.out.2.2.1, HT.out.2.2.2.1, HT.out.2.2.2.2]
        simp only [decide_eq_true_eq]
      have hg5 : g5 ≠ w2.heap.size := by omega
      have hg6 : b ≠ w2.heap.size := by omega
      have hx6 : (N = ⟨#[]⟩ ∧ x6 = [45]) ∨ (N = S x6 ∧ x6 ≠ [45]) := by
        rw [hN]
        unfold noteOf
        by_cases h : x6 = [45]
        · exact .inl ⟨if_pos h, h⟩
        · exact .inr ⟨if_neg h, h⟩
      clear hN
      go_wp2_with fail
      go_region_held3 (fun w' => w'.cell? ⟨g5, o5, none⟩ = some (.int .i64 t1) ∧ w'.cell? ⟨g5, o5 + 1, none⟩ = some (.int .i64 t2) ∧ w'.cell? ⟨g5, o5 + 2, none⟩ = some (.int .i64 t3) ∧ w'.cell? ⟨g5, o5 + 3, none⟩ = some (.int .i64 t4) ∧ w'.cell? ⟨g5, o5 + 4, none⟩ = some (.int .i64 t5) ∧ w'.cell? ⟨b, off + 6, none⟩ = some (.string (S x6))) (go_keep) (first | fail)
      all_goals
        clear F F5 hb I5 d0 d1 d2 d3 d4 hc1 hc2
        by_cases hfin : bText t1 t2 t3 t4 t5 N = s.data.toList
        · have e8 : (bText t1 t2 t3 t4 t5 N == []) = false := by rw [hfin]; exact HNE.out
          have e10 : (bText t1 t2 t3 t4 t5 N == s.toList) = true := beqS_yes (by rw [hfin])
          have e9 : (!(bText t1 t2 t3 t4 t5 N == s.toList)) = false := by rw [e10]; rfl
          have hV2 := hV.out
          rw [if_pos hfin] at hV2
          have HV2 := Lib.hid hV2
          clear hV2 hfin
          rcases hx6 with ⟨rfl, hd⟩ | ⟨rfl, hd⟩
          · have e7 : (x6 == [45]) = true := by rw [hd]; rfl
            clear hd
            go_wp2_with fail
            refine (billText_impl _ _ _ _ _ _ _ hn1 (TW.pow.keep (by (repeat (first | (with_reducible exact Below.refl _ _) | (with_reducible assumption) | (with_reducible refine Below.setCell ?_ ?side _; case side => first | (with_reducible exact Nat.le_refl _) | (simp; done) | (simp only [World.size_alloc, World.size_setCell, World.size_drew, World.heap_drewN] at *; omega)) | (with_reducible refine below_alloc ?_ _) | (with_reducible refine Below.drew ?_) | (with_reducible refine below_drewN ?_) | (with_reducible refine below_via (by assumption) ?_)))))).mono ?_
            rintro e w6 ⟨rfl, b6⟩
            have B6 := below_via b6 (by (repeat (first | (with_reducible exact Below.refl _ _) | (with_reducible assumption) | (with_reducible refine Below.setCell ?_ ?side _; case side => first | (with_reducible exact Nat.le_refl _) | (simp; done) | (simp only [World.size_alloc, World.size_setCell, World.size_drew, World.heap_drewN] at *; omega)) | (with_reducible refine below_alloc ?_ _) | (with_reducible refine Below.drew ?_) | (with_reducible refine below_drewN ?_) | (with_reducible refine below_via (by assumption) ?_))) : Below w.heap.size w _)
            obtain ⟨hcB, hfB, hsB, hzB⟩ := brules (below_via b6 (below_via (W := w2) (by (repeat (first | (with_reducible exact Below.refl _ _) | (with_reducible assumption) | (with_reducible refine Below.setCell ?_ ?side _; case side => first | (with_reducible exact Nat.le_refl _) | (simp; done) | (simp only [World.size_alloc, World.size_setCell, World.size_drew, World.heap_drewN] at *; omega)) | (with_reducible refine below_alloc ?_ _) | (with_reducible refine Below.drew ?_) | (with_reducible refine below_drewN ?_) | (with_reducible refine below_via (by assumption) ?_)))) B5x))
            obtain ⟨hcC, hfC, hsC, hzC⟩ := brules b6
            clear hc0 hf0 hs0 hz0 hc1' hf1 hs1 hz1
            go_wp2
            refine bodyPost_ret (by simp only [results, Tryd.results22]; go_simp; rfl) rfl ?_
            exact ⟨by rw [HV2.out] <;> rfl, by (repeat (first | (with_reducible exact Below.refl _ _) | (with_reducible assumption) | (with_reducible refine Below.setCell ?_ ?side _; case side => first | (with_reducible exact Nat.le_refl _) | (simp; done) | (simp only [World.size_alloc, World.size_setCell, World.size_drew, World.heap_drewN] at *; omega)) | (with_reducible refine below_alloc ?_ _) | (with_reducible refine Below.drew ?_) | (with_reducible refine below_drewN ?_) | (with_reducible refine below_via (by assumption) ?_)))⟩
          · have e7 : (x6 == [45]) = false := beq_eq_false_iff_ne.2 hd
            clear hd
            go_wp2_with fail
            refine (billText_impl _ _ _ _ _ _ _ hn1 (TW.pow.keep (by (repeat (first | (with_reducible exact Below.refl _ _) | (with_reducible assumption) | (with_reducible refine Below.setCell ?_ ?side _; case side => first | (with_reducible exact Nat.le_refl _) | (simp; done) | (simp only [World.size_alloc, World.size_setCell, World.size_drew, World.heap_drewN] at *; omega)) | (with_reducible refine below_alloc ?_ _) | (with_reducible refine Below.drew ?_) | (with_reducible refine below_drewN ?_) | (with_reducible refine below_via (by assumption) ?_)))))).mono ?_
            rintro e w6 ⟨rfl, b6⟩
            have B6 := below_via b6 (by (repeat (first | (with_reducible exact Below.refl _ _) | (with_reducible assumption) | (with_reducible refine Below.setCell ?_ ?side _; case side => first | (with_reducible exact Nat.le_refl _) | (simp; done) | (simp only [World.size_alloc, World.size_setCell, World.size_drew, World.heap_drewN] at *; omega)) | (with_reducible refine below_alloc ?_ _) | (with_reducible refine Below.drew ?_) | (with_reducible refine below_drewN ?_) | (with_reducible refine below_via (by assumption) ?_))) : Below w.heap.size w _)
            obtain ⟨hcB, hfB, hsB, hzB⟩ := brules (below_via b6 (below_via (W := w2) (by (repeat (first | (with_reducible exact Below.refl _ _) | (with_reducible assumption) | (with_reducible refine Below.setCell ?_ ?side _; case side => first | (with_reducible exact Nat.le_refl _) | (simp; done) | (simp only [World.size_alloc, World.size_setCell, World.size_drew, World.heap_drewN] at *; omega)) | (with_reducible refine below_alloc ?_ _) | (with_reducible refine Below.drew ?_) | (with_reducible refine below_drewN ?_) | (with_reducible refine below_via (by assumption) ?_)))) B5x))
            obtain ⟨hcC, hfC, hsC, hzC⟩ := brules b6
            clear hc0 hf0 hs0 hz0 hc1' hf1 hs1 hz1
            go_wp2
            refine bodyPost_ret (by simp only [results, Tryd.results22]; go_simp; rfl) rfl ?_
            exact ⟨by rw [HV2.out] <;> rfl, by (repeat (first | (with_reducible exact Below.refl _ _) | (with_reducible assumption) | (with_reducible refine Below.setCell ?_ ?side _; case side => first | (with_reducible exact Nat.le_refl _) | (simp; done) | (simp only [World.size_alloc, World.size_setCell, World.size_drew, World.heap_drewN] at *; omega)) | (with_reducible refine below_alloc ?_ _) | (with_reducible refine Below.drew ?_) | (with_reducible refine below_drewN ?_) | (with_reducible refine below_via (by assumption) ?_)))⟩
        · have e10 : (bText t1 t2 t3 t4 t5 N == s.toList) = false := beqS_no (fun h => hfin (congrArg (fun z : ByteArray => z.data.toList) h))
          have e9 : (!(bText t1 t2 t3 t4 t5 N == s.toList)) = true := by rw [e10]; rfl
          have hV2 := hV.out
          rw [if_neg hfin] at hV2
          have HV2 := Lib.hid hV2
          clear hV2 hfin
          cases e8 : (bText t1 t2 t3 t4 t5 N == [])
          all_goals
            rcases hx6 with ⟨rfl, hd⟩ | ⟨rfl, hd⟩
            · have e7 : (x6 == [45]) = true := by rw [hd]; rfl
              clear hd
              go_wp2_with fail
              refine (billText_impl _ _ _ _ _ _ _ hn1 (TW.pow.keep (by (repeat (first | (with_reducible exact Below.refl _ _) | (with_reducible assumption) | (with_reducible refine Below.setCell ?_ ?side _; case side => first | (with_reducible exact Nat.le_refl _) | (simp; done) | (simp only [World.size_alloc, World.size_setCell, World.size_drew, World.heap_drewN] at *; omega)) | (with_reducible refine below_alloc ?_ _) | (with_reducible refine Below.drew ?_) | (with_reducible refine below_drewN ?_) | (with_reducible refine below_via (by assumption) ?_)))))).mono ?_
              rintro e w6 ⟨rfl, b6⟩
              have B6 := below_via b6 (by (repeat (first | (with_reducible exact Below.refl _ _) | (with_reducible assumption) | (with_reducible refine Below.setCell ?_ ?side _; case side => first | (with_reducible exact Nat.le_refl _) | (simp; done) | (simp only [World.size_alloc, World.size_setCell, World.size_drew, World.heap_drewN] at *; omega)) | (with_reducible refine below_alloc ?_ _) | (with_reducible refine Below.drew ?_) | (with_reducible refine below_drewN ?_) | (with_reducible refine below_via (by assumption) ?_))) : Below w.heap.size w _)
              obtain ⟨hcB, hfB, hsB, hzB⟩ := brules (below_via b6 (below_via (W := w2) (by (repeat (first | (with_reducible exact Below.refl _ _) | (with_reducible assumption) | (with_reducible refine Below.setCell ?_ ?side _; case side => first | (with_reducible exact Nat.le_refl _) | (simp; done) | (simp only [World.size_alloc, World.size_setCell, World.size_drew, World.heap_drewN] at *; omega)) | (with_reducible refine below_alloc ?_ _) | (with_reducible refine Below.drew ?_) | (with_reducible refine below_drewN ?_) | (with_reducible refine below_via (by assumption) ?_)))) B5x))
              obtain ⟨hcC, hfC, hsC, hzC⟩ := brules b6
              clear hc0 hf0 hs0 hz0 hc1' hf1 hs1 hz1
              go_wp2
              refine bodyPost_ret (by simp only [results, Tryd.results22]; go_simp; rfl) rfl ?_
              exact ⟨by rw [HV2.out] <;> rfl, by (repeat (first | (with_reducible exact Below.refl _ _) | (with_reducible assumption) | (with_reducible refine Below.setCell ?_ ?side _; case side => first | (with_reducible exact Nat.le_refl _) | (simp; done) | (simp only [World.size_alloc, World.size_setCell, World.size_drew, World.heap_drewN] at *; omega)) | (with_reducible refine below_alloc ?_ _) | (with_reducible refine Below.drew ?_) | (with_reducible refine below_drewN ?_) | (with_reducible refine below_via (by assumption) ?_)))⟩
            · have e7 : (x6 == [45]) = false := beq_eq_false_iff_ne.2 hd
              clear hd
              go_wp2_with fail
              refine (billText_impl _ _ _ _ _ _ _ hn1 (TW.pow.keep (by (repeat (first | (with_reducible exact Below.refl _ _) | (with_reducible assumption) | (with_reducible refine Below.setCell ?_ ?side _; case side => first | (with_reducible exact Nat.le_refl _) | (simp; done) | (simp only [World.size_alloc, World.size_setCell, World.size_drew, World.heap_drewN] at *; omega)) | (with_reducible refine below_alloc ?_ _) | (with_reducible refine Below.drew ?_) | (with_reducible refine below_drewN ?_) | (with_reducible refine below_via (by assumption) ?_)))))).mono ?_
              rintro e w6 ⟨rfl, b6⟩
              have B6 := below_via b6 (by (repeat (first | (with_reducible exact Below.refl _ _) | (with_reducible assumption) | (with_reducible refine Below.setCell ?_ ?side _; case side => first | (with_reducible exact Nat.le_refl _) | (simp; done) | (simp only [World.size_alloc, World.size_setCell, World.size_drew, World.heap_drewN] at *; omega)) | (with_reducible refine below_alloc ?_ _) | (with_reducible refine Below.drew ?_) | (with_reducible refine below_drewN ?_) | (with_reducible refine below_via (by assumption) ?_))) : Below w.heap.size w _)
              obtain ⟨hcB, hfB, hsB, hzB⟩ := brules (below_via b6 (below_via (W := w2) (by (repeat (first | (with_reducible exact Below.refl _ _) | (with_reducible assumption) | (with_reducible refine Below.setCell ?_ ?side _; case side => first | (with_reducible exact Nat.le_refl _) | (simp; done) | (simp only [World.size_alloc, World.size_setCell, World.size_drew, World.heap_drewN] at *; omega)) | (with_reducible refine below_alloc ?_ _) | (with_reducible refine Below.drew ?_) | (with_reducible refine below_drewN ?_) | (with_reducible refine below_via (by assumption) ?_)))) B5x))
              obtain ⟨hcC, hfC, hsC, hzC⟩ := brules b6
              clear hc0 hf0 hs0 hz0 hc1' hf1 hs1 hz1
              go_wp2
              refine bodyPost_ret (by simp only [results, Tryd.results22]; go_simp; rfl) rfl ?_
              exact ⟨by rw [HV2.out] <;> rfl, by (repeat (first | (with_reducible exact Below.refl _ _) | (with_reducible assumption) | (with_reducible refine Below.setCell ?_ ?side _; case side => first | (with_reducible exact Nat.le_refl _) | (simp; done) | (simp only [World.size_alloc, World.size_setCell, World.size_drew, World.heap_drewN] at *; omega)) | (with_reducible refine below_alloc ?_ _) | (with_reducible refine Below.drew ?_) | (with_reducible refine below_drewN ?_) | (with_reducible refine below_via (by assumption) ?_)))⟩
    · have hr := Lib.hid (tbV_bad Hw.out hno)
      clear hno
      go_wp2
      have B1 := below_via b2 (below_via b1 (below_alloc (Below.refl _ w) _))
      refine bodyPost_ret (by simp only [results, Tryd.results22]; go_simp; rfl) rfl ?_
      exact ⟨by rw [HV.out, hr.out] <;> rfl, by (repeat (first | (with_reducible exact Below.refl _ _) | (with_reducible assumption) | (with_reducible refine Below.setCell ?_ ?side _; case side => first | (with_reducible exact Nat.le_refl _) | (simp; done) | (simp only [World.size_alloc, World.size_setCell, World.size_drew, World.heap_drewN] at *; omega)) | (with_reducible refine below_alloc ?_ _) | (with_reducible refine Below.drew ?_) | (with_reducible refine below_drewN ?_) | (with_reducible refine below_via (by assumption) ?_)))⟩
  · have hr := Lib.hid (tbV_len h8)
    have h8i : (((((words s.data.toList).map S).length : Nat) : Int) != 8) = true := by rw [List.length_map, bne]; have : ((((words s.data.toList).length : Nat) : Int) == 8) = false := beq_eq_false_iff_ne.2 (by omega); rw [this]; rfl
    have h8j : ((((words s.data.toList).length : Nat) : Int) != 8) = true := by rw [bne]; have : ((((words s.data.toList).length : Nat) : Int) == 8) = false := beq_eq_false_iff_ne.2 (by omega); rw [this]; rfl
    clear hsl
    go_enter Tryd.func22, Tryd.ntmps22
    go_wp2_with fail
    refine (split_impl s hs _ (T0.keep (by (repeat (first | (with_reducible exact Below.refl _ _) | (with_reducible assumption) | (with_reducible refine Below.setCell ?_ ?side _; case side => first | (with_reducible exact Nat.le_refl _) | (simp; done) | (simp only [World.size_alloc, World.size_setCell, World.size_drew, World.heap_drewN] at *; omega)) | (with_reducible refine below_alloc ?_ _) | (with_reducible refine Below.drew ?_) | (with_reducible refine below_drewN ?_) | (with_reducible refine below_via (by assumption) ?_)))))).mono ?_
    rintro e w1 ⟨⟨v, rfl, hown⟩, b1⟩
    obtain ⟨a, c, rfl, ho⟩ := OwnF.of (ok := fun _ => True) hown (fun _ _ => trivial)
    clear hown ho
    obtain ⟨hc0, hf0, hs0, hz0⟩ := brules b1
    go_wp2
    have B1 := below_via b1 (below_alloc (Below.refl _ w) _)
    refine bodyPost_ret (by simp only [results, Tryd.results22]; go_simp; rfl) rfl ?_
    exact ⟨by rw [hr.out]; rfl, by (repeat (first | (with_reducible exact Below.refl _ _) | (with_reducible assumption) | (with_reducible refine Below.setCell ?_ ?side _; case side => first | (with_reducible exact Nat.le_refl _) | (simp; done) | (simp only [World.size_alloc, World.size_setCell, World.size_drew, World.heap_drewN] at *; omega)) | (with_reducible refine below_alloc ?_ _) | (with_reducible refine Below.drew ?_) | (with_reducible refine below_drewN ?_) | (with_reducible refine below_via (by assumption) ?_)))⟩

end Go.Proofs.YtegnlijgjcfmlaaDoor
