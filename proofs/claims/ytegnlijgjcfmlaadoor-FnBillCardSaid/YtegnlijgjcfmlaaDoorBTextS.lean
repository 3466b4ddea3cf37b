/- The text of a bill, walked: the reference. -/
import Derived.Test.YtegnlijgjcfmlaaDoorBText
namespace Go.Proofs.YtegnlijgjcfmlaaDoor
open Go.RowKit
set_option linter.unusedVariables false
set_option linter.unusedSimpArgs false

set_option maxRecDepth 100000 in
set_option maxHeartbeats 1600000 in
theorem billText_spec (i p a m d : Int) (s : ByteArray) (w : World) (hs : s.size ≤ 1048576) : Calls Tryd.prog 18 #[.agg #[.int .i64 i, .int .i64 p, .int .i64 a, .int .i64 m, .int .i64 d, .string s]] w fun e w' => e = .returned (.string (S (bText i p a m d s))) ∧ Below w.heap.size w w' := by
  have hs2 : s.size ≤ 9223372036854775807 := by omega
  cases hok : billOk i p a m d s with
  | false =>
    have hr : Hid (bText i p a m d s = []) := by unfold Hid bText; rw [hok]; rfl
    go_enter Tryd.func18, Tryd.ntmps18
    go_wp2_with (go_at_call 25; refine (billOk_spec _ _ _ _ _ _ _ hs2).mono ?_; rintro e w1 ⟨he, b1⟩; rw [hok] at he; subst he)
    go_ret
    exact ⟨by rw [hr.out]; rfl, below_via b1 (by (repeat (first | (with_reducible exact Below.refl _ _) | (with_reducible assumption) | (with_reducible refine Below.setCell ?_ ?side _; case side => first | (with_reducible exact Nat.le_refl _) | (simp; done) | (simp only [World.size_alloc, World.size_setCell, World.size_drew, World.heap_drewN] at *; omega)) | (with_reducible refine below_alloc ?_ _) | (with_reducible refine Below.drew ?_) | (with_reducible refine below_drewN ?_) | (with_reducible refine below_via (by assumption) ?_))))⟩
  | true =>
    have i5 := trivial
    have hin := Lib.hid (bill_in hok)
    obtain ⟨B, hB⟩ : ∃ B, B = S (bBody i p a m d s) := ⟨_, rfl⟩
    have HB := Lib.hid hB
    clear hB
    have hbs : B.size ≤ 2097152 := by rw [HB.out]; simp only [S, ByteArray.size, List.size_toArray]; exact bBody_len hok i5 hs
    have hchk := chk_bd B.data.toList
    obtain ⟨c, hc⟩ : ∃ c : Nat, chk B.data.toList = (c : Int) := ⟨(chk B.data.toList).toNat, by omega⟩
    have hcd := dec_len c (by omega)
    have hcs : (S (Lib.decDigits c)).size ≤ 20 := by have := hcd.2; simpa [S, ByteArray.size] using this
    have hB32 : (B ++ { data := #[32] } : ByteArray).size ≤ 2097153 := by rw [ByteArray.size_append]; show B.size + 1 ≤ _; omega
    have hfin : Hid (B ++ { data := #[32] } ++ S (Lib.decDigits c) = S (bText i p a m d s)) := by
      unfold Hid bText
      rw [if_pos hok]
      have h1 : chk (bBody i p a m d s) = (c : Int) := by rw [← hc, HB.out]
      rw [HB.out, h1, show ({ data := #[32] } : ByteArray) = S [32] from rfl, S_append, S_append, List.append_assoc]
      rfl
    have hcb : c ≤ 9972 := by omega
    have Hc := Lib.hid hc
    clear hc hchk hcd
    have hbt : Hid (B = S (bHead ++ tailT [i, p, a, m, d]) ++ { data := #[32] } ++ S (noteB s)) := by unfold Hid; rw [HB.out, show ({ data := #[32] } : ByteArray) = S [32] from rfl, S_append, S_append, List.append_assoc]; rfl
    obtain ⟨H, hH⟩ : ∃ H, H = S (bHead ++ tailT [i, p, a, m, d]) := ⟨_, rfl⟩
    have hHs : H.size ≤ 200 := by rw [hH]; simp only [S, ByteArray.size, List.size_toArray, List.length_append]; have := tailT_len _ hin.out; simp [bHead] at this ⊢; omega
    have hH32 : (H ++ { data := #[32] } : ByteArray).size ≤ 201 := by rw [ByteArray.size_append]; show H.size + 1 ≤ _; omega
    rw [← hH] at hbt
    have HH := Lib.hid hH
    have Hok := Lib.hid hok
    clear hH
    cases hse : s.data.toList.isEmpty with
    | true =>
      have h1 : s.toList.isEmpty = true := by rw [ByteArray.toList_eq]; exact hse
      have hn : Hid (S (noteB s) = { data := #[45] }) := by unfold Hid noteB; rw [hse]; rfl
      have h2 : Hid (H ++ { data := #[32] } ++ { data := #[45] } = B) := by unfold Hid; rw [hbt.out, hn.out]
      have h2' := h2.out
      have h3 : H ++ { data := #[32, 45] } = B := by rw [← h2.out, ByteArray.append_assoc]; rfl
      clear hse
      go_enter Tryd.func18, Tryd.ntmps18
      go_wp2_with (go_at_call 25; refine (billOk_spec _ _ _ _ _ _ _ hs2).mono ?_; rintro e w1 ⟨he, b1⟩; rw [hok] at he; subst he; obtain ⟨hc0, hf0, hs0, hz0⟩ := brules b1)
      have B1 : Below w.heap.size w w1 := below_via b1 (below_alloc (Below.refl _ _) _)
      have I1 := IS.lit w1 [i, p, a, m, d] #[.int .i64 i, .int .i64 p, .int .i64 a, .int .i64 m, .int .i64 d] 3 rfl (fun x hx => by have := hin.out x hx; omega) (by simp) 5 rfl _ rfl
      have cs : w1.cell? ⟨w.heap.size, 5, none⟩ = some (.string s) := by rw [hc0 _ _ (by simp)]; simp [go_sem]
      have zs := b1.size
      simp only [World.size_alloc] at zs
      clear hc0 hf0 hs0 hz0
      have cs1 : (w1.alloc (.cells #[.int .i64 i, .int .i64 p, .int .i64 a, .int .i64 m, .int .i64 d] 3)).cell? ⟨w.heap.size, 5, none⟩ = some (.string s) := cell_keep (below_alloc (Below.refl _ _) _) cs
      have BW := below_alloc B1 (.cells #[.int .i64 i, .int .i64 p, .int .i64 a, .int .i64 m, .int .i64 d] 3)
      generalize w1.alloc (.cells #[.int .i64 i, .int .i64 p, .int .i64 a, .int .i64 m, .int .i64 d] 3) = W1 at I1 cs1 BW ⊢
      go_loopw [3, 5, 21] (fun v _ ix wr => ∃ k : Nat, k ≤ 5 ∧ ix = .int .i64 k ∧ v = .string (S (bHead ++ tailT ([i, p, a, m, d].take k))) ∧ Below W1.heap.size W1 wr) (fun _ _ ix _ => 5 - (intOf ix).toNat)
      case atStart => exact ⟨0, Nat.zero_le _, rfl, rfl, Below.refl _ _⟩
      case round =>
        obtain ⟨k, hk, rfl, rfl, hB⟩ := hrel
        by_cases hlt : k < 5
        · obtain ⟨b, off, x, e, hb, hc, hbd, hx, hxs⟩ := (IS.keep I1 hB).at_ hlt
          injection e with e
          injection e with e1 e2
          subst e1
          subst e2
          simp only [Nat.zero_add] at hc
          have hx2 := hin.out x (List.mem_of_getElem? hx.out)
          obtain ⟨u, rfl⟩ : ∃ u : Nat, x = (u : Int) := ⟨x.toNat, by omega⟩
          have hu : u ≤ 1125899906842624 := by omega
          have hd := dec_len u hu
          have hd2 : (S (Lib.decDigits u)).size ≤ 20 := by have := hd.2; simpa [S, ByteArray.size] using this
          have hne : Hid (S (bHead ++ tailT ([i, p, a, m, d].take k)) ++ { data := #[32] } ++ S (Lib.decDigits u) = S (bHead ++ tailT ([i, p, a, m, d].take (k + 1)))) := by unfold Hid; rw [hxs.out, tailT_snoc, show ({ data := #[32] } : ByteArray) = S [32] from rfl, S_append, S_append]; simp [digs]
          have hq := tailT_len ([i, p, a, m, d].take k) (fun y hy => hin.out y (List.mem_of_mem_take hy))
          obtain ⟨Z, hZ⟩ : ∃ Z, Z = S (bHead ++ tailT ([i, p, a, m, d].take k)) := ⟨_, rfl⟩
          have hZs : Z.size ≤ 200 := by rw [hZ]; simp only [S, ByteArray.size, List.size_toArray, List.length_append, bHead, List.length_cons, List.length_nil]; rw [List.length_take] at hq; simp only [List.length_cons, List.length_nil] at hq; omega
          have hZ32 : (Z ++ { data := #[32] } : ByteArray).size ≤ 201 := by rw [ByteArray.size_append]; show Z.size + 1 ≤ _; omega
          rw [← hZ] at hne ⊢
          clear hZ hq hd hbd
          go_wp2_with (go_at_call 46; refine (numText_spec0 u hu _).mono ?_; rintro e w2 ⟨rfl, b2⟩)
          go_roundw
          case rel => exact ⟨k + 1, by omega, by go_num, by rw [hne.out], below_via b2 hB⟩
          case measure => simp [intOf]; omega
        · have hk5 : k = 5 := by omega
          have hH2 : Hid (S (bHead ++ tailT ([i, p, a, m, d].take k)) = H) := by unfold Hid; rw [hk5]; exact HH.out.symm
          rw [hH2.out]
          have e5 : decide ((k : Int) < 5) = false := decide_eq_false (by omega)
          clear hk5
          have cs2 : wr.cell? ⟨w.heap.size, 5, none⟩ = some (.string s) := cell_keep hB cs1
          have B2 : Below w.heap.size w wr := BW.trans (hB.mono BW.size)
          go_wp2_with fail
          refine (check_spec' B (by omega) _).mono ?_
          rintro e w3 ⟨he, rfl⟩
          rw [Hc.out] at he
          subst he
          go_wp2_with fail
          refine (numText_spec0 c (by omega) _).mono ?_
          rintro e w4 ⟨rfl, b4⟩
          go_wp2
          go_ret
          exact ⟨by rw [← hfin.out]; rfl, below_via b4 B2⟩
    | false =>
      have h1 : s.toList.isEmpty = false := by rw [ByteArray.toList_eq]; exact hse
      have hn : Hid (S (noteB s) = s) := by unfold Hid noteB; rw [hse]; rfl
      have h2 : Hid (H ++ { data := #[32] } ++ s = B) := by unfold Hid; rw [hbt.out, hn.out]
      have h2' := h2.out
      clear hse
      go_enter Tryd.func18, Tryd.ntmps18
      go_wp2_with (go_at_call 25; refine (billOk_spec _ _ _ _ _ _ _ hs2).mono ?_; rintro e w1 ⟨he, b1⟩; rw [hok] at he; subst he; obtain ⟨hc0, hf0, hs0, hz0⟩ := brules b1)
      have B1 : Below w.heap.size w w1 := below_via b1 (below_alloc (Below.refl _ _) _)
      have I1 := IS.lit w1 [i, p, a, m, d] #[.int .i64 i, .int .i64 p, .int .i64 a, .int .i64 m, .int .i64 d] 3 rfl (fun x hx => by have := hin.out x hx; omega) (by simp) 5 rfl _ rfl
      have cs : w1.cell? ⟨w.heap.size, 5, none⟩ = some (.string s) := by rw [hc0 _ _ (by simp)]; simp [go_sem]
      have zs := b1.size
      simp only [World.size_alloc] at zs
      clear hc0 hf0 hs0 hz0
      have cs1 : (w1.alloc (.cells #[.int .i64 i, .int .i64 p, .int .i64 a, .int .i64 m, .int .i64 d] 3)).cell? ⟨w.heap.size, 5, none⟩ = some (.string s) := cell_keep (below_alloc (Below.refl _ _) _) cs
      have BW := below_alloc B1 (.cells #[.int .i64 i, .int .i64 p, .int .i64 a, .int .i64 m, .int .i64 d] 3)
      generalize w1.alloc (.cells #[.int .i64 i, .int .i64 p, .int .i64 a, .int .i64 m, .int .i64 d] 3) = W1 at I1 cs1 BW ⊢
      go_loopw [3, 5, 21] (fun v _ ix wr => ∃ k : Nat, k ≤ 5 ∧ ix = .int .i64 k ∧ v = .string (S (bHead ++ tailT ([i, p, a, m, d].take k))) ∧ Below W1.heap.size W1 wr) (fun _ _ ix _ => 5 - (intOf ix).toNat)
      case atStart => exact ⟨0, Nat.zero_le _, rfl, rfl, Below.refl _ _⟩
      case round =>
        obtain ⟨k, hk, rfl, rfl, hB⟩ := hrel
        by_cases hlt : k < 5
        · obtain ⟨b, off, x, e, hb, hc, hbd, hx, hxs⟩ := (IS.keep I1 hB).at_ hlt
          injection e with e
          injection e with e1 e2
          subst e1
          subst e2
          simp only [Nat.zero_add] at hc
          have hx2 := hin.out x (List.mem_of_getElem? hx.out)
          obtain ⟨u, rfl⟩ : ∃ u : Nat, x = (u : Int) := ⟨x.toNat, by omega⟩
          have hu : u ≤ 1125899906842624 := by omega
          have hd := dec_len u hu
          have hd2 : (S (Lib.decDigits u)).size ≤ 20 := by have := hd.2; simpa [S, ByteArray.size] using this
          have hne : Hid (S (bHead ++ tailT ([i, p, a, m, d].take k)) ++ { data := #[32] } ++ S (Lib.decDigits u) = S (bHead ++ tailT ([i, p, a, m, d].take (k + 1)))) := by unfold Hid; rw [hxs.out, tailT_snoc, show ({ data := #[32] } : ByteArray) = S [32] from rfl, S_append, S_append]; simp [digs]
          have hq := tailT_len ([i, p, a, m, d].take k) (fun y hy => hin.out y (List.mem_of_mem_take hy))
          obtain ⟨Z, hZ⟩ : ∃ Z, Z = S (bHead ++ tailT ([i, p, a, m, d].take k)) := ⟨_, rfl⟩
          have hZs : Z.size ≤ 200 := by rw [hZ]; simp only [S, ByteArray.size, List.size_toArray, List.length_append, bHead, List.length_cons, List.length_nil]; rw [List.length_take] at hq; simp only [List.length_cons, List.length_nil] at hq; omega
          have hZ32 : (Z ++ { data := #[32] } : ByteArray).size ≤ 201 := by rw [ByteArray.size_append]; show Z.size + 1 ≤ _; omega
          rw [← hZ] at hne ⊢
          clear hZ hq hd hbd
          go_wp2_with (go_at_call 46; refine (numText_spec0 u hu _).mono ?_; rintro e w2 ⟨rfl, b2⟩)
          go_roundw
          case rel => exact ⟨k + 1, by omega, by go_num, by rw [hne.out], below_via b2 hB⟩
          case measure => simp [intOf]; omega
        · have hk5 : k = 5 := by omega
          have hH2 : Hid (S (bHead ++ tailT ([i, p, a, m, d].take k)) = H) := by unfold Hid; rw [hk5]; exact HH.out.symm
          rw [hH2.out]
          have e5 : decide ((k : Int) < 5) = false := decide_eq_false (by omega)
          clear hk5
          have cs2 : wr.cell? ⟨w.heap.size, 5, none⟩ = some (.string s) := cell_keep hB cs1
          have B2 : Below w.heap.size w wr := BW.trans (hB.mono BW.size)
          go_wp2_with fail
          refine (check_spec' B (by omega) _).mono ?_
          rintro e w3 ⟨he, rfl⟩
          rw [Hc.out] at he
          subst he
          go_wp2_with fail
          refine (numText_spec0 c (by omega) _).mono ?_
          rintro e w4 ⟨rfl, b4⟩
          go_wp2
          go_ret
          exact ⟨by rw [← hfin.out]; rfl, below_via b4 B2⟩

end Go.Proofs.YtegnlijgjcfmlaaDoor
