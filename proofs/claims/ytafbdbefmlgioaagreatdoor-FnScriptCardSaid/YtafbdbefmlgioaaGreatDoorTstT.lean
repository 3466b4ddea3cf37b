/- Steps read: the plain part. -/
import Derived.Test.YtafbdbefmlgioaaGreatDoorStV
import Derived.Test.YtafbdbefmlgioaaGreatDoorTevT
import Derived.Test.YtafbdbefmlgioaaGreatDoorStT
import Derived.Test.YtafbdbefmlgioaaGreatDoorStM
import Derived.Test.YtafbdbefmlgioaaGreatDoorTevI
namespace Go.Proofs.YtafbdbefmlgioaaGreatDoor
open Go.RowKit
set_option linter.unusedVariables false
set_option linter.unusedSimpArgs false

def St.text (s : St) : List UInt8 := stText s.kind s.ev.kind s.ev.key s.ev.ch s.ev.to s.ev.amt s.ev.fee s.ev.yes s.keep s.lo s.hi s.step s.mn s.mx
def takeW : List UInt8 := [116, 97, 107, 101]
theorem words_cons : ∀ (l cur w : List UInt8) (ws : List (List UInt8)), wordsGo cur l = w :: ws → (ws = [] ∧ cur ++ l = w) ∨ ∃ r, cur ++ l = w ++ 32 :: r ∧ words r = ws
  | [], cur, w, ws, h => by
    simp [wordsGo] at h
    exact .inl ⟨h.2, by simp [h.1]⟩
  | c :: l, cur, w, ws, h => by
    unfold wordsGo at h
    split at h
    · rename_i hc
      simp only [List.cons.injEq] at h
      exact .inr ⟨l, by rw [h.1, hc], h.2⟩
    · rcases words_cons l (cur ++ [c]) w ws h with ⟨h1, h2⟩ | ⟨r, h1, h2⟩
      · exact .inl ⟨h1, by simpa using h2⟩
      · exact .inr ⟨r, by simpa using h1, h2⟩
theorem words_form {l w : List UInt8} {ws : List (List UInt8)} (h : words l = w :: ws) : (ws = [] ∧ l = w) ∨ ∃ r, l = w ++ 32 :: r ∧ words r = ws := by
  rcases words_cons l [] w ws h with h | h
  · exact .inl (by simpa using h)
  · exact .inr (by simpa using h)
/-- the text without 'take ' ahead of it -/
def trimTake (l : List UInt8) : List UInt8 := if takeB.isPrefixOf l = true then l.drop 5 else l
def allN (W : List (List UInt8)) : Bool := (W.drop 1).all fun w => (tnum w).isSome
def rule5 (s : St) : List Int → St
  | [a, b, c, d, e] => { s with lo := a, hi := b, step := c, mn := d, mx := e }
  | _ => s
/-- the step that words say, the event and the numbers given -/
def tsOf (w : List UInt8) (ev : Ev) (ns : List Int) : St :=
  if w = takeW then { St.zero with kind := 1, ev := ev } else if w = syncB then { St.zero with kind := 2 } else if w = startB then { St.zero with kind := 4 } else if w = crashB then { St.zero with kind := 3, keep := ns }
  else if w = turnB then rule5 { St.zero with kind := 5 } ns else St.zero
def numsI (W : List (List UInt8)) : List Int := if allN W = true then tvals W else []
def tsI (l : List UInt8) : St := tsOf (w0 (words l)) (tev (trimTake l)) (numsI (words l))
def tsS (l : List UInt8) : St := tsOf (w0 (words l)) (if 5 < l.length then tev (l.drop 5) else Ev.zero) (tvals (words l))
def tsOk (l : List UInt8) : Bool := decide ((tsI l).text = l ∧ l ≠ [])
def ts (l : List UInt8) : St := if tsOk l = true then tsI l else St.zero
theorem ts_yes {l : List UInt8} (h : tsOk l = true) : ts l = tsI l := if_pos h
theorem ts_no {l : List UInt8} (h : tsOk l = false) : ts l = St.zero := by unfold ts; rw [h]; rfl
theorem w0_eq {l w : List UInt8} {ws : List (List UInt8)} (h : words l = w :: ws) : w0 (words l) = w := by rw [h]; rfl
theorem words_ex (l : List UInt8) : ∃ w ws, words l = w :: ws := by
  cases h : words l with
  | nil => exact absurd h (wordsGo_ne l [])
  | cons w ws => exact ⟨w, ws, rfl⟩
theorem tev_short : tev [] = Ev.zero := tev_no (by unfold tevOk; exact decide_eq_false (by simp))
theorem kw_take : kw takeW 12 = 0 := by decide
theorem evOk_0 (key ch too amt fee : Int) (yes : Bool) : evOk 0 key ch too amt fee yes = false := by unfold evOk; rw [decide_eq_false (by omega)]; rfl
theorem tev_take : tev takeW = Ev.zero := by
  refine tev_no (decide_eq_false fun h => ?_)
  have hw : words takeW = [takeW] := by decide
  rw [hw] at h
  unfold Ev.text pev at h
  rw [show w0 [takeW] = takeW from rfl, kw_take] at h
  unfold evText at h
  rw [show (((0 : Nat) : Int)) = 0 from rfl] at h
  simp only [evOk_0] at h
  exact h.2 h.1.symm
theorem take_same {l : List UInt8} (h : w0 (words l) = takeW) : tev (trimTake l) = if 5 < l.length then tev (l.drop 5) else Ev.zero := by
  obtain ⟨w, ws, hw⟩ := words_ex l
  rw [w0_eq hw] at h
  subst h
  rcases words_form hw with ⟨_, rfl⟩ | ⟨r, rfl, _⟩
  · rw [show trimTake takeW = takeW by decide, tev_take]
    rfl
  · have hp : trimTake (takeW ++ 32 :: r) = r := by
      unfold trimTake
      have : takeB.isPrefixOf (takeW ++ 32 :: r) = true := by simp [takeB, takeW, List.isPrefixOf]
      rw [if_pos this]
      rfl
    rw [hp]
    show tev r = if 5 < (takeW ++ 32 :: r).length then tev r else Ev.zero
    cases r with
    | nil => rw [tev_short]; rfl
    | cons c r => rw [if_pos (by simp [takeW])]
theorem tail_all {a : List UInt8} {xs : List Int} {l : List UInt8} (h : a ++ tailT xs = l) (ha : (32 : UInt8) ∉ a) (hx : ∀ x ∈ xs, 0 ≤ x ∧ x ≤ 1125899906842624) : allN (words l) = true := by
  rw [← h, words_tail xs a ha]
  unfold allN
  rw [List.drop_succ_cons, List.drop_zero, List.all_map, List.all_eq_true]
  intro x hx2
  exact digs_some (hx x hx2)
theorem stText_crash {xs : List Int} {l : List UInt8} (h : ({ St.zero with kind := 3, keep := xs } : St).text = l) (hl : l ≠ []) : allN (words l) = true := by
  unfold St.text stText at h
  rw [if_neg (by simp [St.zero, Ev.zero, evZ, ruleZ]), if_neg (by simp), if_neg (by simp), if_neg (by simp), if_pos rfl] at h
  split at h
  · rename_i ha
    exact tail_all h (by decide) fun x hx => amtOk_t (List.all_eq_true.1 ha x hx)
  · exact absurd h.symm hl
theorem ruleOk_in {lo hi st mn mx : Int} (h : ruleOk lo hi st mn mx = true) : ∀ x ∈ [lo, hi, st, mn, mx], 0 ≤ x ∧ x ≤ 1125899906842624 := by
  intro x hx
  have := of_decide_eq_true h
  simp at hx
  rcases hx with rfl | rfl | rfl | rfl | rfl <;> omega
theorem stText_turn {lo hi st mn mx : Int} {l : List UInt8} (h : ({ St.zero with kind := 5, lo := lo, hi := hi, step := st, mn := mn, mx := mx } : St).text = l) (hl : l ≠ []) : allN (words l) = true := by
  unfold St.text stText at h
  rw [if_neg (by simp [St.zero, Ev.zero, evZ]), if_neg (by simp), if_neg (by simp), if_neg (by simp), if_neg (by simp), if_pos rfl] at h
  split at h
  · rename_i ha
    exact tail_all h (by decide) (ruleOk_in ha)
  · exact absurd h.symm hl
theorem rule5_text {xs : List Int} {l : List UInt8} (h : (rule5 { St.zero with kind := 5 } xs).text = l) (hl : l ≠ []) : allN (words l) = true := by
  unfold rule5 at h
  split at h
  · exact stText_turn h hl
  · exact stText_turn (lo := 0) (hi := 0) (st := 0) (mn := 0) (mx := 0) h hl
theorem ts_same (l : List UInt8) : decide ((tsS l).text = l ∧ l ≠ []) = tsOk l ∧ (tsOk l = true → tsS l = tsI l) := by
  have key : tsS l = tsI l ∨ ((¬ ((tsS l).text = l ∧ l ≠ [])) ∧ ¬ ((tsI l).text = l ∧ l ≠ [])) := by
    unfold tsS tsI tsOf
    by_cases h1 : w0 (words l) = takeW
    · rw [if_pos h1, if_pos h1, take_same h1]; exact .inl rfl
    rw [if_neg h1, if_neg h1]
    by_cases h2 : w0 (words l) = syncB
    · rw [if_pos h2, if_pos h2]; exact .inl rfl
    rw [if_neg h2, if_neg h2]
    by_cases h3 : w0 (words l) = startB
    · rw [if_pos h3, if_pos h3]; exact .inl rfl
    rw [if_neg h3, if_neg h3]
    by_cases h4 : w0 (words l) = crashB
    · rw [if_pos h4, if_pos h4]
      unfold numsI
      by_cases ha : allN (words l) = true
      · rw [if_pos ha]; exact .inl rfl
      · exact .inr ⟨fun h => ha (stText_crash h.1 h.2), fun h => ha (stText_crash h.1 h.2)⟩
    rw [if_neg h4, if_neg h4]
    by_cases h5 : w0 (words l) = turnB
    · rw [if_pos h5, if_pos h5]
      unfold numsI
      by_cases ha : allN (words l) = true
      · rw [if_pos ha]; exact .inl rfl
      · exact .inr ⟨fun h => ha (rule5_text h.1 h.2), fun h => ha (rule5_text h.1 h.2)⟩
    rw [if_neg h5, if_neg h5]
    exact .inl rfl
  unfold tsOk
  rcases key with h | ⟨h1, h2⟩
  · rw [h]; exact ⟨rfl, fun _ => rfl⟩
  · rw [decide_eq_false h1, decide_eq_false h2]
    exact ⟨rfl, fun h => by cases h⟩

/-- the cells of a step -/
def St.cells (s : St) (a : Option Addr) (cp : Nat) : List Value :=
  [.int .i64 s.kind, .int .i64 s.ev.kind, .int .i64 s.ev.key, .int .i64 s.ev.ch, .int .i64 s.ev.to, .int .i64 s.ev.amt, .int .i64 s.ev.fee, .bool s.ev.yes, .slice a s.keep.length cp, .int .i64 s.lo, .int .i64 s.hi, .int .i64 s.step, .int .i64 s.mn, .int .i64 s.mx]
theorem St.cells_len (s : St) (a : Option Addr) (cp : Nat) : (s.cells a cp).length = 14 := rfl
theorem cells_zero : St.zero.cells none 0 = [.int .i64 0, .int .i64 0, .int .i64 0, .int .i64 0, .int .i64 0, .int .i64 0, .int .i64 0, .bool false, .slice none 0 0, .int .i64 0, .int .i64 0, .int .i64 0, .int .i64 0, .int .i64 0] := rfl
theorem allN_nums (W : List (List UInt8)) : numsOk ((W.drop 1).map S) = allN W ∧ numsV ((W.drop 1).map S) = tvals W := by
  unfold numsOk allN numsV tvals
  rw [List.all_map, List.map_map]
  exact ⟨rfl, rfl⟩
theorem nums_own {w : World} {B : Nat} {v : Value} {W : List (List UInt8)} (h : (allN W = true ∧ OwnI w B v (tvals W)) ∨ (allN W = false ∧ v = .slice none 0 0)) : OwnI w B v (numsI W) := by
  unfold numsI
  rcases h with ⟨h1, h2⟩ | ⟨h1, rfl⟩
  · rw [if_pos h1]; exact h2
  · rw [if_neg (by rw [h1]; simp)]; exact World.ownsRow_nil _ _ _ _
theorem numsI_bd (W : List (List UInt8)) : ∀ n ∈ numsI W, -1125899906842624 ≤ n ∧ n ≤ 1125899906842624 := by
  intro n hn
  unfold numsI at hn
  split at hn
  · unfold tvals at hn
    obtain ⟨x, -, rfl⟩ := List.mem_map.1 hn
    exact tnum_bd x
  · cases hn
theorem tvals_bd (W : List (List UInt8)) : ∀ n ∈ tvals W, -1125899906842624 ≤ n ∧ n ≤ 1125899906842624 := by
  intro n hn
  unfold tvals at hn
  obtain ⟨x, -, rfl⟩ := List.mem_map.1 hn
  exact tnum_bd x
theorem hasPrefix_is : ∀ (p l : List UInt8), Lib.hasPrefix l p = p.isPrefixOf l
  | [], l => by cases l <;> rfl
  | a :: p, [] => rfl
  | a :: p, c :: l => by
    have := hasPrefix_is p l
    unfold Lib.hasPrefix at this ⊢
    simp only [List.isPrefixOf, this]
theorem trim_take (l : List UInt8) : Lib.trimPrefix l takeB = trimTake l := by
  unfold Lib.trimPrefix trimTake
  rw [hasPrefix_is]
  rfl
theorem Row.drew {b : Nat} {cs : List Value} {w : World} (h : Row b cs w) : Row b cs w.drew := ⟨fun j v hj => h.1 j v hj, fun j hj => h.2 j hj⟩
theorem OwnI.leB {w : World} {B B' : Nat} {v : Value} {xs : List Int} (h : OwnI w B v xs) (hB : B' ≤ B) : OwnI w B' v xs := by
  refine ⟨h.1, ?_⟩
  rcases h.2 with h2 | ⟨g, cap, cur, rfl, hg, hr⟩
  · exact .inl h2
  · exact .inr ⟨g, cap, cur, rfl, Nat.le_trans hB hg, hr⟩
theorem keepIG {w w' : World} {B g : Nat} {v : Value} {xs : List Int} (h : OwnI w B v xs) (hg : w.grownBy w' (some g)) (hne : v.ownBlock ≠ some g) : OwnI w' B v xs := World.ownsRow.kept h hg (.inr hne)
theorem trimTake_len (l : List UInt8) : (trimTake l).length ≤ l.length := by
  unfold trimTake
  split
  · rw [List.length_drop]; omega
  · exact Nat.le_refl _

end Go.Proofs.YtafbdbefmlgioaaGreatDoor
