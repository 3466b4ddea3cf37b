/- Words: 1 to 8 lowercase letters. -/
import Derived.Test.YtafbdbefmlgioaaGreatDoorAdd
import Derived.Test.YtafbdbefmlgioaaGreatDoorTNum
import Derived.Lib.SplitLaws
namespace Go.Proofs.YtafbdbefmlgioaaGreatDoor
open Go.RowKit
set_option linter.unusedVariables false
set_option linter.unusedSimpArgs false

def lowB (b : UInt8) : Bool := decide (97 ≤ (b.toNat : Int) ∧ (b.toNat : Int) ≤ 122)
def wordOk (l : List UInt8) : Bool := decide (1 ≤ l.length ∧ l.length ≤ 8) && l.all lowB
theorem all_snoc (l : List UInt8) (c : UInt8) (h : l.all lowB = true) (hc : 97 ≤ (c.toNat : Int) ∧ (c.toNat : Int) ≤ 122) : (l ++ [c]).all lowB = true := by
  simp [List.all_append, h, lowB, hc.1, hc.2] <;> omega
theorem all_bad (s : ByteArray) (k : Nat) (h : k < s.size) (hc : (s[k].toNat : Int) < 97 ∨ 122 < (s[k].toNat : Int)) : s.data.toList.all lowB = false := by
  rw [List.all_eq_false]
  refine ⟨s[k], ?_, ?_⟩
  · show s.data[k] ∈ _
    simp
  · unfold lowB
    exact Bool.eq_false_iff.1 (decide_eq_false (by omega))

/-- a text cut at its blanks; `cur` is what stands before -/
def wordsGo : List UInt8 → List UInt8 → List (List UInt8)
  | cur, [] => [cur]
  | cur, c :: r => if c = 32 then cur :: wordsGo [] r else wordsGo (cur ++ [c]) r
def words (l : List UInt8) : List (List UInt8) := wordsGo [] l
theorem wordsGo_len : ∀ (l cur : List UInt8), (wordsGo cur l).length ≤ l.length + 1
  | [], cur => by simp [wordsGo]
  | c :: r, cur => by
    unfold wordsGo
    split
    · have := wordsGo_len r []; simp only [List.length_cons]; omega
    · have := wordsGo_len r (cur ++ [c]); simp only [List.length_cons]; omega
theorem wordsGo_ne : ∀ (l cur : List UInt8), wordsGo cur l ≠ []
  | [], cur => by simp [wordsGo]
  | c :: r, cur => by
    unfold wordsGo
    split
    · simp
    · exact wordsGo_ne r _
theorem wordsGo_mem : ∀ (l cur x : List UInt8), x ∈ wordsGo cur l → x.length ≤ cur.length + l.length
  | [], cur, x, h => by simp [wordsGo] at h; subst h; omega
  | c :: r, cur, x, h => by
    unfold wordsGo at h
    split at h
    · rcases List.mem_cons.1 h with rfl | h
      · simp only [List.length_cons]; omega
      · have := wordsGo_mem r [] x h; simp only [List.length_cons, List.length_nil] at this ⊢; omega
    · have := wordsGo_mem r _ x h; simp only [List.length_append, List.length_cons, List.length_nil] at this ⊢; omega
theorem words_word : ∀ (a : List UInt8) (cur r : List UInt8), (32 : UInt8) ∉ a → wordsGo cur (a ++ 32 :: r) = (cur ++ a) :: words r
  | [], cur, r, _ => by simp [wordsGo, words]
  | c :: a, cur, r, h => by
    have hc : c ≠ 32 := fun e => h (by rw [e]; exact List.mem_cons_self)
    rw [List.cons_append, wordsGo, if_neg hc, words_word a (cur ++ [c]) r (fun h2 => h (List.mem_cons_of_mem _ h2))]
    simp
theorem words_last : ∀ (a cur : List UInt8), (32 : UInt8) ∉ a → wordsGo cur a = [cur ++ a]
  | [], cur, _ => by simp [wordsGo]
  | c :: a, cur, h => by
    have hc : c ≠ 32 := fun e => h (by rw [e]; exact List.mem_cons_self)
    rw [wordsGo, if_neg hc, words_last a (cur ++ [c]) (fun h2 => h (List.mem_cons_of_mem _ h2))]
    simp
def pre (cur : List UInt8) : List (List UInt8) → List (List UInt8)
  | [] => []
  | p :: q => (cur ++ p) :: q
theorem wordsGo_pre : ∀ (l cur a : List UInt8), wordsGo (a ++ cur) l = pre a (wordsGo cur l)
  | [], cur, a => rfl
  | c :: r, cur, a => by
    unfold wordsGo
    split
    · rfl
    · rw [List.append_assoc]; exact wordsGo_pre r (cur ++ [c]) a
theorem splitK_words : ∀ (l : List UInt8), Lib.splitK [32] 0 (Lib.count l [32]) l = words l
  | [] => by rw [Lib.count_one]; rfl
  | c :: r => by
    have ih := splitK_words r
    by_cases hc : c = 32
    · subst hc
      rw [Lib.count_cons_eq, Nat.add_comm]
      have hix : Lib.index ((32 : UInt8) :: r) [32] = 0 := by rw [Lib.index]; simp [List.isPrefixOf]
      unfold Lib.splitK
      rw [hix]
      simp only [show ((0 : Int) == -1) = false from rfl, Bool.false_eq_true, if_false]
      unfold words wordsGo
      simp only [if_true]
      show [] :: Lib.splitK [32] 0 (Lib.count r [32]) r = [] :: words r
      rw [ih]
    · rw [Lib.count_cons_ne c 32 r hc]
      have hw : words (c :: r) = pre [c] (words r) := by
        unfold words
        rw [wordsGo, if_neg hc, ← wordsGo_pre]
        rfl
      have hix : Lib.index (c :: r) [32] = if Lib.index r [32] == -1 then -1 else Lib.index r [32] + 1 := by
        have hp : ([32] : List UInt8).isPrefixOf (c :: r) = false := by simp [List.isPrefixOf, Ne.symm hc]
        rw [Lib.index, hp]; simp
      rw [hw, ← ih]
      cases hk : Lib.count r [32] with
      | zero => rfl
      | succ k =>
        unfold Lib.splitK
        rw [hix]
        by_cases hm : Lib.index r [32] = -1
        · simp only [hm, beq_self_eq_true, if_true]
          rfl
        · have hge := Lib.index_ge r [32]
          obtain ⟨j, hj⟩ : ∃ j : Nat, Lib.index r [32] = j := ⟨(Lib.index r [32]).toNat, by omega⟩
          have h1 : (Lib.index r [32] == -1) = false := beq_eq_false_iff_ne.2 hm
          have h2 : ((Lib.index r [32] + 1) == -1) = false := beq_eq_false_iff_ne.2 (by omega)
          simp only [h1, h2, Bool.false_eq_true, if_false]
          rw [hj, show ((j : Int) + 1).toNat = j + 1 by omega, show ((j : Int)).toNat = j by omega]
          show List.take (j + 1 + 0) (c :: r) :: _ = pre [c] (_ :: _)
          simp only [pre, Nat.add_zero, List.take_succ_cons, List.singleton_append]
          congr 2
theorem S_data (s : ByteArray) : S s.data.toList = s := rfl
theorem splitB_words (s : ByteArray) : Lib.splitB ⟨#[32]⟩ 0 (Lib.countB s ⟨#[32]⟩) s = (words s.data.toList).map S := by
  have h := Lib.splitB_data ⟨#[32]⟩ 0 (Lib.countB s ⟨#[32]⟩) s
  have h2 : Lib.splitK [32] 0 (Lib.countB s ⟨#[32]⟩) s.data.toList = words s.data.toList := splitK_words _
  have h3 := congrArg (List.map S) (h.trans h2)
  rw [List.map_map] at h3
  rw [← h3]
  exact (List.map_id' _).symm
theorem words_cnt (s : ByteArray) : Lib.countB s ⟨#[32]⟩ + 1 = ((words s.data.toList).map S).length := by
  rw [← splitB_words, Lib.splitB_all ⟨#[32]⟩ (by decide) 0 _ s rfl]
theorem OwnS.row (w : World) (xs : List ByteArray) (n : Nat) (hn : n = xs.length) (hlen : xs.length ≤ maxLen) : OwnS (w.alloc (.cells (xs.map Value.string).toArray 9)) w.heap.size (.slice (some ⟨w.heap.size, 0, none⟩) n n) xs := by
  subst hn
  have e : ∀ ys : List ByteArray, ys.flatMap encS = ys.map Value.string := fun ys => by
    induction ys with
    | nil => rfl
    | cons x r ih => rw [List.flatMap_cons, ih]; rfl
  refine ⟨by rw [e]; simp, .inr ⟨w.heap.size, xs.length, (xs.map Value.string).toArray, rfl, Nat.le_refl _, heap_alloc_new w _, Nat.le_refl _, hlen, by simp, by rw [e, List.take_of_length_le (by simp)]⟩⟩

theorem split_mx (s : ByteArray) (hs : s.size ≤ 1048576) (w : World) (mx : ∃ m, w.cell? ⟨0, 0, none⟩ = some (.int .i64 m)) : Calls Tryz.prog 49 #[.string s, .string ⟨#[32]⟩] w fun e w' => (∃ v, e = .returned v ∧ OwnS w' w.heap.size v ((words s.data.toList).map S)) ∧ Below w.heap.size w w' := by
  obtain ⟨m, hm⟩ := mx
  have hl := wordsGo_len s.data.toList []
  have hsl : s.data.toList.length = s.size := Array.length_toList
  have hcnt := words_cnt s
  refine (Tryz.strings_Split s ⟨#[32]⟩ m w (by omega) hm (by decide)).mono ?_
  rintro e w' ⟨rfl, rfl⟩
  refine ⟨⟨_, rfl, ?_⟩, below_alloc (Below.refl _ _) _⟩
  rw [splitB_words, hcnt]
  exact OwnS.row w _ _ rfl (by rw [List.length_map]; show (wordsGo [] s.data.toList).length ≤ _; unfold maxLen; omega)
theorem split_impl (s : ByteArray) (hs : s.size ≤ 1048576) (w : World) (T : LV w) : Calls Tryz.prog 49 #[.string s, .string ⟨#[32]⟩] w fun e w' => (∃ v, e = .returned v ∧ OwnS w' w.heap.size v ((words s.data.toList).map S)) ∧ Below w.heap.size w w' := split_mx s hs w T.mx

theorem take_drop_comm2 (l : List UInt8) (a b : Nat) : (l.drop a).take (b - a) = (l.take b).drop a := by rw [List.drop_take]
theorem extract_S (s : ByteArray) (a b : Nat) : s.extract a b = S ((s.data.toList.take b).drop a) := by
  apply ByteArray.ext
  apply Array.toList_inj.1
  rw [Lib.extract_data]
  exact take_drop_comm2 _ _ _
set_option maxRecDepth 100000 in
set_option maxHeartbeats 3200000 in
theorem parts_spec (s : ByteArray) (hs : s.size ≤ 1048576) (w : World) : Calls Tryz.prog 75 #[.string s, .int .u8 32] w fun e w' => (∃ v, e = .returned v ∧ OwnS w' w.heap.size v ((words s.data.toList).map S)) ∧ Below w.heap.size w w' := by
  have hsl : s.data.toList.length = s.size := Array.length_toList
  have Hsl := Lib.hid hsl
  clear hsl
  go_enter Tryz.func75, Tryz.ntmps75
  go_wp2
  go_loopw [5, 6, 7] (fun v fr i wr => ∃ (f k : Nat) (P : List (List UInt8)), f ≤ k ∧ k ≤ s.size ∧ i = .int .i64 k ∧ fr = .int .i64 f ∧ P.length ≤ k ∧ OwnS wr w.heap.size v (P.map S) ∧ Hid (words s.data.toList = P ++ wordsGo ((s.data.toList.take k).drop f) (s.data.toList.drop k)) ∧ Below w.heap.size w wr) (fun _ _ i _ => s.size - (intOf i).toNat)
  case atStart => exact ⟨0, 0, [], Nat.le_refl _, Nat.zero_le _, rfl, rfl, Nat.zero_le _, OwnF.made w _ (Nat.le_refl _), rfl, below_alloc (Below.refl _ _) _⟩
  case round =>
    obtain ⟨f, k, P, hf, hk, rfl, rfl, hP, hown, hw, hB⟩ := hrel
    have hz := hB.size
    have hkl : (P.map S).length ≤ 1099511627775 := by rw [List.length_map]; omega
    by_cases hlt : k < s.size
    · have hb := byte_bd s[k]
      have hgk : s.data.toList[k]? = some s[k] := by rw [List.getElem?_eq_getElem (by rw [Hsl.out]; exact hlt)]; rfl
      have hdr : s.data.toList.drop k = s[k] :: s.data.toList.drop (k + 1) := by rw [List.drop_eq_getElem_cons (by rw [Hsl.out]; exact hlt)]; rfl
      by_cases hc : s[k].toNat = 32
      · have e1 : ((s[k].toNat : Int) == 32) = true := by simp; omega
        obtain ⟨y, hy⟩ : ∃ y, y = S ((s.data.toList.take k).drop f) := ⟨_, rfl⟩
        have hex : s.extract f k = y := by rw [hy]; exact extract_S s f k
        have hw2 : Hid (words s.data.toList = (P ++ [(s.data.toList.take k).drop f]) ++ wordsGo ((s.data.toList.take (k + 1)).drop (k + 1)) (s.data.toList.drop (k + 1))) := by
          unfold Hid
          have h9 : (s.data.toList.take (k + 1)).drop (k + 1) = [] := List.drop_eq_nil_of_le (by rw [List.length_take]; omega)
          rw [hw.out, hdr, wordsGo, if_pos (UInt8.toNat_inj.1 hc), List.append_assoc, h9]
          rfl
        have hmap : Hid ((P ++ [(s.data.toList.take k).drop f]).map S = P.map S ++ [y]) := by unfold Hid; rw [List.map_append, hy]; rfl
        clear hy hgk hdr
        go_wp2_with (at_builtin; (try rw [hex]); refine wpList_append_f infoString Tryz.underlying109 rfl (by decide) (by decide) lenS oneS rfl _ _ rfl w.heap.size _ _ rfl (hown.alloc _) _ y rfl (new_cells _ _ _ rfl) hkl (Nat.le_trans hz (size_alloc_le _ _)) ?_)
        intro v' w4 hown4 hb4 _
        go_wp2
        go_roundw
        case rel => exact ⟨k + 1, k + 1, P ++ [(s.data.toList.take k).drop f], Nat.le_refl _, by omega, by go_num, by go_num, by simp; omega, by rw [hmap.out]; exact hown4, hw2, (below_alloc hB _).trans hb4⟩
        case measure => simp [intOf]; omega
      · have e1 : ((s[k].toNat : Int) == 32) = false := by simp; omega
        have hw2 : Hid (words s.data.toList = P ++ wordsGo ((s.data.toList.take (k + 1)).drop f) (s.data.toList.drop (k + 1))) := by
          unfold Hid
          rw [hw.out, hdr, wordsGo, if_neg (fun e => hc (by rw [e]; rfl)), take_snoc s k hlt, List.drop_append_of_le_length (by rw [List.length_take, Hsl.out]; omega)]
        clear hgk hdr
        go_wp2
        go_roundw
        case rel => exact ⟨f, k + 1, P, by omega, by omega, by go_num, rfl, by omega, hown, hw2, hB⟩
        case measure => simp [intOf]; omega
    · obtain ⟨y, hy⟩ : ∃ y, y = S ((s.data.toList.take k).drop f) := ⟨_, rfl⟩
      have hex : s.extract f s.size = y := by rw [hy, extract_S, take_all s k (by omega), take_all s s.size (by omega)]
      have hmap : Hid ((words s.data.toList).map S = P.map S ++ [y]) := by
        unfold Hid
        have h9 : s.data.toList.drop k = [] := List.drop_eq_nil_of_le (by rw [Hsl.out]; omega)
        rw [hw.out, h9, List.map_append, hy]
        rfl
      clear hy
      go_wp2_with (at_builtin; (try rw [hex]); refine wpList_append_f infoString Tryz.underlying109 rfl (by decide) (by decide) lenS oneS rfl _ _ rfl w.heap.size _ _ rfl (hown.alloc _) _ y rfl (new_cells _ _ _ rfl) hkl (Nat.le_trans hz (size_alloc_le _ _)) ?_)
      intro v' w4 hown4 hb4 _
      go_wp2
      go_ret
      exact ⟨⟨_, rfl, by rw [hmap.out]; exact hown4⟩, (below_alloc hB _).trans hb4⟩

end Go.Proofs.YtafbdbefmlgioaaGreatDoor
