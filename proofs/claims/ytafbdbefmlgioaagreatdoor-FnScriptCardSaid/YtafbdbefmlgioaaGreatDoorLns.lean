/- Lns: a text cut at its newlines (Words, turned by program). -/
import Derived.Test.YtafbdbefmlgioaaGreatDoorWords
import Derived.Lib.SplitLaws
namespace Go.Proofs.YtafbdbefmlgioaaGreatDoor
open Go.RowKit
set_option linter.unusedVariables false
set_option linter.unusedSimpArgs false

/-- a text cut at its newlines; `cur` is what stands before -/
def lnsGo : List UInt8 → List UInt8 → List (List UInt8)
  | cur, [] => [cur]
  | cur, c :: r => if c = 10 then cur :: lnsGo [] r else lnsGo (cur ++ [c]) r
def lns (l : List UInt8) : List (List UInt8) := lnsGo [] l
theorem lnsGo_len : ∀ (l cur : List UInt8), (lnsGo cur l).length ≤ l.length + 1
  | [], cur => by simp [lnsGo]
  | c :: r, cur => by
    unfold lnsGo
    split
    · have := lnsGo_len r []; simp only [List.length_cons]; omega
    · have := lnsGo_len r (cur ++ [c]); simp only [List.length_cons]; omega
theorem lnsGo_ne : ∀ (l cur : List UInt8), lnsGo cur l ≠ []
  | [], cur => by simp [lnsGo]
  | c :: r, cur => by
    unfold lnsGo
    split
    · simp
    · exact lnsGo_ne r _
theorem lnsGo_mem : ∀ (l cur x : List UInt8), x ∈ lnsGo cur l → x.length ≤ cur.length + l.length
  | [], cur, x, h => by simp [lnsGo] at h; subst h; omega
  | c :: r, cur, x, h => by
    unfold lnsGo at h
    split at h
    · rcases List.mem_cons.1 h with rfl | h
      · simp only [List.length_cons]; omega
      · have := lnsGo_mem r [] x h; simp only [List.length_cons, List.length_nil] at this ⊢; omega
    · have := lnsGo_mem r _ x h; simp only [List.length_append, List.length_cons, List.length_nil] at this ⊢; omega
theorem lns_word : ∀ (a : List UInt8) (cur r : List UInt8), (10 : UInt8) ∉ a → lnsGo cur (a ++ 10 :: r) = (cur ++ a) :: lns r
  | [], cur, r, _ => by simp [lnsGo, lns]
  | c :: a, cur, r, h => by
    have hc : c ≠ 10 := fun e => h (by rw [e]; exact List.mem_cons_self)
    rw [List.cons_append, lnsGo, if_neg hc, lns_word a (cur ++ [c]) r (fun h2 => h (List.mem_cons_of_mem _ h2))]
    simp
theorem lns_last : ∀ (a cur : List UInt8), (10 : UInt8) ∉ a → lnsGo cur a = [cur ++ a]
  | [], cur, _ => by simp [lnsGo]
  | c :: a, cur, h => by
    have hc : c ≠ 10 := fun e => h (by rw [e]; exact List.mem_cons_self)
    rw [lnsGo, if_neg hc, lns_last a (cur ++ [c]) (fun h2 => h (List.mem_cons_of_mem _ h2))]
    simp
theorem lnsGo_pre : ∀ (l cur a : List UInt8), lnsGo (a ++ cur) l = pre a (lnsGo cur l)
  | [], cur, a => rfl
  | c :: r, cur, a => by
    unfold lnsGo
    split
    · rfl
    · rw [List.append_assoc]; exact lnsGo_pre r (cur ++ [c]) a
theorem splitK_lns : ∀ (l : List UInt8), Lib.splitK [10] 0 (Lib.count l [10]) l = lns l
  | [] => by rw [Lib.count_one]; rfl
  | c :: r => by
    have ih := splitK_lns r
    by_cases hc : c = 10
    · subst hc
      rw [Lib.count_cons_eq, Nat.add_comm]
      have hix : Lib.index ((10 : UInt8) :: r) [10] = 0 := by rw [Lib.index]; simp [List.isPrefixOf]
      unfold Lib.splitK
      rw [hix]
      simp only [show ((0 : Int) == -1) = false from rfl, Bool.false_eq_true, if_false]
      unfold lns lnsGo
      simp only [if_true]
      show [] :: Lib.splitK [10] 0 (Lib.count r [10]) r = [] :: lns r
      rw [ih]
    · rw [Lib.count_cons_ne c 10 r hc]
      have hw : lns (c :: r) = pre [c] (lns r) := by
        unfold lns
        rw [lnsGo, if_neg hc, ← lnsGo_pre]
        rfl
      have hix : Lib.index (c :: r) [10] = if Lib.index r [10] == -1 then -1 else Lib.index r [10] + 1 := by
        have hp : ([10] : List UInt8).isPrefixOf (c :: r) = false := by simp [List.isPrefixOf, Ne.symm hc]
        rw [Lib.index, hp]; simp
      rw [hw, ← ih]
      cases hk : Lib.count r [10] with
      | zero => rfl
      | succ k =>
        unfold Lib.splitK
        rw [hix]
        by_cases hm : Lib.index r [10] = -1
        · simp only [hm, beq_self_eq_true, if_true]
          rfl
        · have hge := Lib.index_ge r [10]
          obtain ⟨j, hj⟩ : ∃ j : Nat, Lib.index r [10] = j := ⟨(Lib.index r [10]).toNat, by omega⟩
          have h1 : (Lib.index r [10] == -1) = false := beq_eq_false_iff_ne.2 hm
          have h2 : ((Lib.index r [10] + 1) == -1) = false := beq_eq_false_iff_ne.2 (by omega)
          simp only [h1, h2, Bool.false_eq_true, if_false]
          rw [hj, show ((j : Int) + 1).toNat = j + 1 by omega, show ((j : Int)).toNat = j by omega]
          show List.take (j + 1 + 0) (c :: r) :: _ = pre [c] (_ :: _)
          simp only [pre, Nat.add_zero, List.take_succ_cons, List.singleton_append]
          congr 2
theorem splitB_lns (s : ByteArray) : Lib.splitB ⟨#[10]⟩ 0 (Lib.countB s ⟨#[10]⟩) s = (lns s.data.toList).map S := by
  have h := Lib.splitB_data ⟨#[10]⟩ 0 (Lib.countB s ⟨#[10]⟩) s
  have h2 : Lib.splitK [10] 0 (Lib.countB s ⟨#[10]⟩) s.data.toList = lns s.data.toList := splitK_lns _
  have h3 := congrArg (List.map S) (h.trans h2)
  rw [List.map_map] at h3
  rw [← h3]
  exact (List.map_id' _).symm
theorem lns_cnt (s : ByteArray) : Lib.countB s ⟨#[10]⟩ + 1 = ((lns s.data.toList).map S).length := by
  rw [← splitB_lns, Lib.splitB_all ⟨#[10]⟩ (by decide) 0 _ s rfl]
theorem splitL_mx (s : ByteArray) (hs : s.size ≤ 1048576) (w : World) (mx : ∃ m, w.cell? ⟨0, 0, none⟩ = some (.int .i64 m)) : Calls Tryz.prog 49 #[.string s, .string ⟨#[10]⟩] w fun e w' => (∃ v, e = .returned v ∧ OwnS w' w.heap.size v ((lns s.data.toList).map S)) ∧ Below w.heap.size w w' := by
  obtain ⟨m, hm⟩ := mx
  have hl := lnsGo_len s.data.toList []
  have hsl : s.data.toList.length = s.size := Array.length_toList
  have hcnt := lns_cnt s
  refine (Tryz.strings_Split s ⟨#[10]⟩ m w (by omega) hm (by decide)).mono ?_
  rintro e w' ⟨rfl, rfl⟩
  refine ⟨⟨_, rfl, ?_⟩, below_alloc (Below.refl _ _) _⟩
  rw [splitB_lns, hcnt]
  exact OwnS.row w _ _ rfl (by rw [List.length_map]; show (lnsGo [] s.data.toList).length ≤ _; unfold maxLen; omega)
theorem splitL_impl (s : ByteArray) (hs : s.size ≤ 1048576) (w : World) (T : LV w) : Calls Tryz.prog 49 #[.string s, .string ⟨#[10]⟩] w fun e w' => (∃ v, e = .returned v ∧ OwnS w' w.heap.size v ((lns s.data.toList).map S)) ∧ Below w.heap.size w w' := splitL_mx s hs w T.mx
set_option maxRecDepth 100000 in
set_option maxHeartbeats 3200000 in
theorem partsL_spec (s : ByteArray) (hs : s.size ≤ 1048576) (w : World) : Calls Tryz.prog 75 #[.string s, .int .u8 10] w fun e w' => (∃ v, e = .returned v ∧ OwnS w' w.heap.size v ((lns s.data.toList).map S)) ∧ Below w.heap.size w w' := by
  have hsl : s.data.toList.length = s.size := Array.length_toList
  have Hsl := Lib.hid hsl
  clear hsl
  go_enter Tryz.func75, Tryz.ntmps75
  go_wp2
  go_loopw [5, 6, 7] (fun v fr i wr => ∃ (f k : Nat) (P : List (List UInt8)), f ≤ k ∧ k ≤ s.size ∧ i = .int .i64 k ∧ fr = .int .i64 f ∧ P.length ≤ k ∧ OwnS wr w.heap.size v (P.map S) ∧ Hid (lns s.data.toList = P ++ lnsGo ((s.data.toList.take k).drop f) (s.data.toList.drop k)) ∧ Below w.heap.size w wr) (fun _ _ i _ => s.size - (intOf i).toNat)
  case atStart => exact ⟨0, 0, [], Nat.le_refl _, Nat.zero_le _, rfl, rfl, Nat.zero_le _, OwnF.made w _ (Nat.le_refl _), rfl, below_alloc (Below.refl _ _) _⟩
  case round =>
    obtain ⟨f, k, P, hf, hk, rfl, rfl, hP, hown, hw, hB⟩ := hrel
    have hz := hB.size
    have hkl : (P.map S).length ≤ 1099511627775 := by rw [List.length_map]; omega
    by_cases hlt : k < s.size
    · have hb := byte_bd s[k]
      have hgk : s.data.toList[k]? = some s[k] := by rw [List.getElem?_eq_getElem (by rw [Hsl.out]; exact hlt)]; rfl
      have hdr : s.data.toList.drop k = s[k] :: s.data.toList.drop (k + 1) := by rw [List.drop_eq_getElem_cons (by rw [Hsl.out]; exact hlt)]; rfl
      by_cases hc : s[k].toNat = 10
      · have e1 : ((s[k].toNat : Int) == 10) = true := by simp; omega
        obtain ⟨y, hy⟩ : ∃ y, y = S ((s.data.toList.take k).drop f) := ⟨_, rfl⟩
        have hex : s.extract f k = y := by rw [hy]; exact extract_S s f k
        have hw2 : Hid (lns s.data.toList = (P ++ [(s.data.toList.take k).drop f]) ++ lnsGo ((s.data.toList.take (k + 1)).drop (k + 1)) (s.data.toList.drop (k + 1))) := by
          unfold Hid
          have h9 : (s.data.toList.take (k + 1)).drop (k + 1) = [] := List.drop_eq_nil_of_le (by rw [List.length_take]; omega)
          rw [hw.out, hdr, lnsGo, if_pos (UInt8.toNat_inj.1 hc), List.append_assoc, h9]
          rfl
        have hmap : Hid ((P ++ [(s.data.toList.take k).drop f]).map S = P.map S ++ [y]) := by unfold Hid; rw [List.map_append, hy]; rfl
        clear hy hgk hdr
        go_wp2_with (at_builtin; (try rw [hex]); refine wpList_append_f infoString Tryz.underlying109 rfl (by decide) (by decide) lenS oneS rfl _ _ rfl w.heap.size _ _ rfl (hown.alloc _) _ y rfl (new_cells _ _ _ rfl) hkl (Nat.le_trans hz (size_alloc_le _ _)) ?_)
        intro v' w4 hown4 hb4 _
        go_wp2
        go_roundw
        case rel => exact ⟨k + 1, k + 1, P ++ [(s.data.toList.take k).drop f], Nat.le_refl _, by omega, by go_num, by go_num, by simp; omega, by rw [hmap.out]; exact hown4, hw2, (below_alloc hB _).trans hb4⟩
        case measure => simp [intOf]; omega
      · have e1 : ((s[k].toNat : Int) == 10) = false := by simp; omega
        have hw2 : Hid (lns s.data.toList = P ++ lnsGo ((s.data.toList.take (k + 1)).drop f) (s.data.toList.drop (k + 1))) := by
          unfold Hid
          rw [hw.out, hdr, lnsGo, if_neg (fun e => hc (by rw [e]; rfl)), take_snoc s k hlt, List.drop_append_of_le_length (by rw [List.length_take, Hsl.out]; omega)]
        clear hgk hdr
        go_wp2
        go_roundw
        case rel => exact ⟨f, k + 1, P, by omega, by omega, by go_num, rfl, by omega, hown, hw2, hB⟩
        case measure => simp [intOf]; omega
    · obtain ⟨y, hy⟩ : ∃ y, y = S ((s.data.toList.take k).drop f) := ⟨_, rfl⟩
      have hex : s.extract f s.size = y := by rw [hy, extract_S, take_all s k (by omega), take_all s s.size (by omega)]
      have hmap : Hid ((lns s.data.toList).map S = P.map S ++ [y]) := by
        unfold Hid
        have h9 : s.data.toList.drop k = [] := List.drop_eq_nil_of_le (by rw [Hsl.out]; omega)
        rw [hw.out, h9, List.map_append, hy]
        rfl
      clear hy
      go_wp2_with (at_builtin; (try rw [hex]); refine wpList_append_f infoString Tryz.underlying109 rfl (by decide) (by decide) lenS oneS rfl _ _ rfl w.heap.size _ _ rfl (hown.alloc _) _ y rfl (new_cells _ _ _ rfl) hkl (Nat.le_trans hz (size_alloc_le _ _)) ?_)
      intro v' w4 hown4 hb4 _
      go_wp2
      go_ret
      exact ⟨⟨_, rfl, by rw [hmap.out]; exact hown4⟩, (below_alloc hB _).trans hb4⟩

end Go.Proofs.YtafbdbefmlgioaaGreatDoor
