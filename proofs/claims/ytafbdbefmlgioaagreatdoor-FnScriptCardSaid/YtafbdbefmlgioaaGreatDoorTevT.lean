/- Events read: the plain part. -/
import Derived.Test.YtafbdbefmlgioaaGreatDoorStV
import Derived.Test.YtafbdbefmlgioaaGreatDoorEvP
import Derived.Test.YtafbdbefmlgioaaGreatDoorTBill
import Derived.Test.YtafbdbefmlgioaaGreatDoorRow
namespace Go.Proofs.YtafbdbefmlgioaaGreatDoor
open Go.RowKit
set_option linter.unusedVariables false
set_option linter.unusedSimpArgs false

def kw (w : List UInt8) : Nat → Nat
  | 0 => 0
  | k + 1 => if evWords[k]? = some w then k else kw w k
theorem kw_lt (w : List UInt8) : ∀ k, kw w k ≤ k
  | 0 => Nat.le_refl _
  | k + 1 => by
    unfold kw
    split
    · omega
    · have := kw_lt w k; omega
def cnt : List Bool → Nat
  | [] => 0
  | b :: h => (if b = true then 1 else 0) + cnt h
theorem cnt_take_le : ∀ (h : List Bool) (i j : Nat), i ≤ j → cnt (h.take i) ≤ cnt (h.take j)
  | [], i, j, _ => by simp
  | b :: h, 0, j, _ => by simp [cnt]
  | b :: h, i + 1, j + 1, hij => by
    have := cnt_take_le h i j (by omega)
    simp only [List.take_succ_cons, cnt]
    omega
theorem cnt_step : ∀ (h : List Bool) (i : Nat) (b : Bool), h[i]? = some b → cnt (h.take (i + 1)) = cnt (h.take i) + (if b = true then 1 else 0)
  | [], i, b, hb => by simp at hb
  | c :: h, 0, b, hb => by
    simp at hb
    subst hb
    simp [cnt]
  | c :: h, i + 1, b, hb => by
    have := cnt_step h i b (by simpa using hb)
    rw [List.take_succ_cons, List.take_succ_cons]
    simp only [cnt, this]
    omega
/-- the number that field i has -/
def fat (h : List Bool) (v : List Int) (i : Nat) : Int := if h[i]? = some true then (v[cnt (h.take i)]?).getD 0 else 0
theorem fat_nil (h : List Bool) (i : Nat) : fat h [] i = 0 := by unfold fat; split <;> simp
theorem fat_take {h : List Bool} {v : List Int} {j k : Nat} (hj : h[j]? = some true) (hk : cnt (h.take j) = k) (i : Nat) : fat h (v.take (k + 1)) i = if i = j then (v[k]?).getD 0 else fat h (v.take k) i := by
  by_cases hij : i = j
  · subst hij
    rw [if_pos rfl]
    unfold fat
    rw [if_pos hj, hk, List.getElem?_take_of_lt (by omega)]
  · rw [if_neg hij]
    unfold fat
    split
    · rename_i hi
      have hne : cnt (h.take i) ≠ k := by
        rcases Nat.lt_or_ge i j with hlt | hge
        · have h1 := cnt_step h i true hi
          have h2 := cnt_take_le h (i + 1) j (by omega)
          simp only [if_true] at h1
          omega
        · have h1 := cnt_step h j true hj
          have h2 := cnt_take_le h (j + 1) i (by omega)
          simp only [if_true] at h1
          omega
      rcases Nat.lt_or_ge (cnt (h.take i)) k with hlt | hge
      · rw [List.getElem?_take_of_lt (by omega), List.getElem?_take_of_lt hlt]
      · rw [List.getElem?_eq_none (by rw [List.length_take]; omega), List.getElem?_eq_none (by rw [List.length_take]; omega)]
    · rfl
theorem fat_more {h : List Bool} {v : List Int} {k : Nat} (hk : v.length ≤ k) (i : Nat) : fat h (v.take k) i = fat h v i := by rw [List.take_of_length_le hk]
theorem fat_all {h : List Bool} {v : List Int} {k : Nat} (hk : cnt h ≤ k) (i : Nat) : fat h (v.take k) i = fat h v i := by
  unfold fat
  split
  · rename_i hi
    have h1 := cnt_step h i true hi
    have h2 := cnt_take_le h (i + 1) h.length (by have := (List.getElem?_eq_some_iff.1 hi).1; omega)
    rw [List.take_length] at h2
    simp only [if_true] at h1
    rw [List.getElem?_take_of_lt (by omega)]
  · rfl
theorem sel_cnt {α : Type} : ∀ (h : List Bool) (xs : List α), h.length ≤ xs.length → (sel h xs).length = cnt h
  | [], xs, _ => by cases xs <;> rfl
  | b :: h, [], hl => by simp at hl
  | b :: h, x :: r, hl => by
    have := sel_cnt h r (by simpa using hl)
    simp only [sel, cnt]
    split <;> simp [this] <;> omega
theorem sel_where : ∀ (h : List Bool) (s n k j : Nat), (sel h (List.range' s n))[k]? = some j → s ≤ j ∧ j < s + n ∧ h[j - s]? = some true ∧ cnt (h.take (j - s)) = k
  | [], s, n, k, j, hj => by cases n <;> simp [sel, List.range'] at hj
  | b :: h, s, 0, k, j, hj => by simp [List.range', sel] at hj
  | b :: h, s, n + 1, k, j, hj => by
    rw [List.range'_succ] at hj
    simp only [sel] at hj
    cases b with
    | true =>
      simp only [if_true] at hj
      cases k with
      | zero =>
        simp at hj
        subst hj
        refine ⟨Nat.le_refl _, by omega, by simp, by simp [cnt]⟩
      | succ k =>
        simp only [List.getElem?_cons_succ] at hj
        obtain ⟨h1, h2, h3, h4⟩ := sel_where h (s + 1) n k j hj
        obtain ⟨d, rfl⟩ : ∃ d, j = s + 1 + d := ⟨j - (s + 1), by omega⟩
        rw [show s + 1 + d - (s + 1) = d by omega] at h3 h4
        refine ⟨by omega, by omega, ?_, ?_⟩
        · rw [show s + 1 + d - s = d + 1 by omega]; simpa using h3
        · rw [show s + 1 + d - s = d + 1 by omega, List.take_succ_cons]; simp only [cnt, if_true, h4]; omega
    | false =>
      simp only [Bool.false_eq_true, if_false] at hj
      obtain ⟨h1, h2, h3, h4⟩ := sel_where h (s + 1) n k j hj
      obtain ⟨d, rfl⟩ : ∃ d, j = s + 1 + d := ⟨j - (s + 1), by omega⟩
      rw [show s + 1 + d - (s + 1) = d by omega] at h3 h4
      refine ⟨by omega, by omega, ?_, ?_⟩
      · rw [show s + 1 + d - s = d + 1 by omega]; simpa using h3
      · rw [show s + 1 + d - s = d + 1 by omega, List.take_succ_cons]; simp only [cnt, Bool.false_eq_true, if_false, h4]; omega
theorem sel_where5 {h : List Bool} {k j : Nat} (hj : (sel h [1, 2, 3, 4, 5])[k]? = some j) : 1 ≤ j ∧ j ≤ 5 ∧ h[j - 1]? = some true ∧ cnt (h.take (j - 1)) = k := by
  obtain ⟨h1, h2, h3, h4⟩ := sel_where h 1 5 k j hj
  exact ⟨h1, by omega, h3, h4⟩
def w0 (ws : List (List UInt8)) : List UInt8 := (ws[0]?).getD []
def lastW (ws : List (List UInt8)) : List UInt8 := (ws[ws.length - 1]?).getD []
def tvals (ws : List (List UInt8)) : List Int := (ws.drop 1).map tg
def yesB : List UInt8 := [121, 101, 115]
/-- the event that words say -/
def pev (ws : List (List UInt8)) (yes : Bool) : Ev :=
  ⟨(kw (w0 ws) 12 : Nat), fat (hasF (kw (w0 ws) 12 : Nat)) (tvals ws) 0, fat (hasF (kw (w0 ws) 12 : Nat)) (tvals ws) 1, fat (hasF (kw (w0 ws) 12 : Nat)) (tvals ws) 2, fat (hasF (kw (w0 ws) 12 : Nat)) (tvals ws) 3, fat (hasF (kw (w0 ws) 12 : Nat)) (tvals ws) 4, yes⟩
def Ev.text (e : Ev) : List UInt8 := evText e.kind e.key e.ch e.to e.amt e.fee e.yes
def yI (ws : List (List UInt8)) : Bool := decide (((kw (w0 ws) 12 : Nat) : Int) = 5) && decide (lastW ws = yesB)
def yS (ws : List (List UInt8)) : Bool := decide (lastW ws = yesB)
def tevOk (l : List UInt8) : Bool := decide ((pev (words l) (yI (words l))).text = l ∧ l ≠ [])
def tev (l : List UInt8) : Ev := if tevOk l = true then pev (words l) (yI (words l)) else Ev.zero
theorem tev_yes {l : List UInt8} (h : tevOk l = true) : tev l = pev (words l) (yI (words l)) := if_pos h
theorem tev_no {l : List UInt8} (h : tevOk l = false) : tev l = Ev.zero := by unfold tev; rw [h]; rfl
theorem words_tail : ∀ (ns : List Int) (a : List UInt8), (32 : UInt8) ∉ a → words (a ++ tailT ns) = a :: ns.map digs
  | [], a, h => by
    rw [show tailT [] = [] from rfl, List.append_nil]
    exact words_last a [] h
  | x :: ns, a, h => by
    have e : a ++ tailT (x :: ns) = a ++ 32 :: (digs x ++ tailT ns) := by simp [tailT, Lib.joinTail]
    rw [e, words_w h, words_tail ns (digs x) digs_no]
    rfl
theorem evWord_no (k : Nat) (h : k < 12) : (32 : UInt8) ∉ evWord (k : Int) := by
  have : ∀ n : Nat, n < 12 → (32 : UInt8) ∉ evWord (n : Int) := by decide
  exact this k h
theorem evWord_yes (k : Nat) (h : k < 12) : evWord (k : Int) ≠ yesB := by
  have : ∀ n : Nat, n < 12 → evWord (n : Int) ≠ yesB := by decide
  exact this k h
theorem digs_yes (x : Int) : digs x ≠ yesB := by
  obtain ⟨c, r, h, h1, h2⟩ := dec_head x.toNat
  have e : digs x = c :: r := h
  rw [e]
  intro h3
  injection h3 with h4
  subst h4
  simp at h2
theorem last_yes {e : Ev} {l : List UInt8} (h : e.text = l) (hl : l ≠ []) (h5 : e.kind ≠ 5) : lastW (words l) ≠ yesB := by
  unfold Ev.text evText at h
  split at h
  · rename_i hok
    have hk := evOk_kind hok
    obtain ⟨n, hn⟩ : ∃ n : Nat, e.kind = (n : Int) := ⟨e.kind.toNat, by omega⟩
    have he : evEnd e.kind e.yes = [] := by unfold evEnd; rw [if_neg h5]
    rw [he, List.append_nil, hn] at h
    rw [← h, words_tail _ _ (evWord_no n (by omega))]
    unfold lastW
    rw [List.length_cons, Nat.add_sub_cancel]
    cases hz : evNums (n : Int) e.key e.ch e.to e.amt e.fee with
    | nil => simpa using evWord_yes n (by omega)
    | cons x r =>
      rw [List.length_map, List.length_cons, List.getElem?_cons_succ, List.getElem?_map]
      cases hg : (x :: r)[r.length]? with
      | none => simp at hg
      | some y => exact digs_yes y
  · exact absurd h.symm hl
theorem tev_same (l : List UInt8) : decide ((pev (words l) (yS (words l))).text = l ∧ l ≠ []) = tevOk l ∧ (tevOk l = true → pev (words l) (yS (words l)) = pev (words l) (yI (words l))) := by
  by_cases hy : yS (words l) = yI (words l)
  · rw [hy]
    exact ⟨rfl, fun _ => rfl⟩
  · have h5 : ((kw (w0 (words l)) 12 : Nat) : Int) ≠ 5 := by
      intro h
      apply hy
      unfold yS yI
      rw [decide_eq_true h, Bool.true_and]
    have hlast : lastW (words l) = yesB := by
      refine Classical.byContradiction fun h => hy ?_
      unfold yS yI
      rw [decide_eq_false h, Bool.and_false]
    have hno : tevOk l = false := by
      refine decide_eq_false fun h => ?_
      exact last_yes h.1 h.2 h5 hlast
    rw [hno]
    refine ⟨decide_eq_false fun h => ?_, fun h => by cases h⟩
    have h2 := last_yes h.1 h.2 h5 hlast
    exact h2

theorem sel_cnt5 : ∀ (h : List Bool) (xs : List Nat), (sel h xs).length = cnt (h.take xs.length)
  | h, [] => by rw [sel_nil]; rfl
  | [], x :: r => by simp [sel, cnt]
  | b :: h, x :: r => by
    have := sel_cnt5 h r
    simp only [sel, List.length_cons, List.take_succ_cons, cnt]
    split <;> simp [this] <;> omega
theorem fat_all5 {h : List Bool} {v : List Int} {k : Nat} (hk : (sel h [1, 2, 3, 4, 5]).length ≤ k) (i : Nat) (hi : i < 5) : fat h (v.take k) i = fat h v i := by
  rw [sel_cnt5] at hk
  unfold fat
  split
  · rename_i hb
    have h1 := cnt_step h i true hb
    have h2 := cnt_take_le h (i + 1) 5 (by omega)
    simp only [if_true] at h1
    replace hk : cnt (h.take 5) ≤ k := hk
    rw [List.getElem?_take_of_lt (by omega)]
  · rfl
/-- the cells of an event whose first k numbers have been read -/
def evL (kd : Int) (h : List Bool) (v : List Int) (y : Bool) : List Value := [.int .i64 kd, .int .i64 (fat h v 0), .int .i64 (fat h v 1), .int .i64 (fat h v 2), .int .i64 (fat h v 3), .int .i64 (fat h v 4), .bool y]
theorem evL_put {kd : Int} {h : List Bool} {v : List Int} {y : Bool} {j k : Nat} {x : Int} (h1 : 1 ≤ j) (h5 : j ≤ 5) (hj : h[j - 1]? = some true) (hk : cnt (h.take (j - 1)) = k) (hx : v[k]? = some x) :
    (evL kd h (v.take k) y).take j ++ ([.int .i64 x] ++ (evL kd h (v.take k) y).drop (j + [Value.int .i64 x].length)) = evL kd h (v.take (k + 1)) y := by
  have hf := fun i => fat_take (v := v) hj hk i
  unfold evL
  rw [hf, hf, hf, hf, hf, hx]
  rcases (show j = 1 ∨ j = 2 ∨ j = 3 ∨ j = 4 ∨ j = 5 by omega) with rfl | rfl | rfl | rfl | rfl <;> rfl
theorem evL_more {kd : Int} {h : List Bool} {v : List Int} {y : Bool} {k : Nat} (hk : v.length ≤ k) : evL kd h (v.take (k + 1)) y = evL kd h (v.take k) y := by
  rw [List.take_of_length_le hk, List.take_of_length_le (by omega)]
theorem evL_all {kd : Int} {h : List Bool} {v : List Int} {y : Bool} {k : Nat} (hk : (sel h [1, 2, 3, 4, 5]).length ≤ k) : evL kd h (v.take k) y = evL kd h v y := by
  unfold evL
  rw [fat_all5 hk 0 (by omega), fat_all5 hk 1 (by omega), fat_all5 hk 2 (by omega), fat_all5 hk 3 (by omega), fat_all5 hk 4 (by omega)]
theorem evL_zero (kd : Int) (h : List Bool) (y : Bool) : evL kd h [] y = [.int .i64 kd, .int .i64 0, .int .i64 0, .int .i64 0, .int .i64 0, .int .i64 0, .bool y] := by
  unfold evL
  rw [fat_nil, fat_nil, fat_nil, fat_nil, fat_nil]
theorem evWords_at (k : Nat) (h : k < 12) : evWords[k]? = some (evWord (k : Int)) := by
  have := evWord_get k h
  rw [List.getElem?_map] at this
  cases hw : evWords[k]? with
  | none => rw [hw] at this; cases this
  | some x =>
    unfold evWord
    rw [show ((k : Int)).toNat = k from rfl, hw]
    rfl
theorem kw_yes {w : List UInt8} {k : Nat} (h : k < 12) (e : evWord (k : Int) = w) : kw w (k + 1) = k := by rw [kw, evWords_at k h, e, if_pos rfl]
theorem kw_no {w : List UInt8} {k : Nat} (h : k < 12) (e : evWord (k : Int) ≠ w) : kw w (k + 1) = kw w k := by rw [kw, evWords_at k h, if_neg (fun h2 => e (Option.some.inj h2))]
theorem LV.pm {w : World} (h : LV w) : PM w := ⟨h.pow, h.mx⟩
theorem SS.cellS {w : World} {B b off len : Nat} {xs : List ByteArray} (h : SS w B (some ⟨b, off, none⟩) len xs) (i : Nat) (x : ByteArray) (hx : xs[i]? = some x) : w.cell? ⟨b, off + i, none⟩ = some (.string x) := by
  obtain ⟨b', off', e, hlt, hc⟩ := h.2.2.2 i x hx
  injection e with e
  injection e with e1 e2
  subst e1
  subst e2
  have := hc 0 _ rfl
  rw [show off + i * 1 + 0 = off + i by omega] at this
  exact this
theorem splitWords2 (w : World) (mx : ∃ m, w.cell? ⟨0, 0, none⟩ = some (.int .i64 m)) : Calls Tryz.prog 49 #[.string ⟨#[32, 100, 101, 112, 111, 115, 105, 116, 32, 111, 112, 101, 110, 32, 99, 108, 111, 115, 101, 32, 112, 114, 105, 99, 101, 32, 97, 100, 109, 105, 116, 32, 102, 117, 108, 102, 105, 108, 108, 32, 102, 97, 105, 108, 32, 116, 105, 99, 107, 32, 108, 97, 117, 110, 99, 104, 32, 97, 114, 114, 105, 118, 101, 32, 108, 111, 115, 116]⟩, .string ⟨#[32]⟩] w fun e w' =>
    (∃ g off c, e = .returned (.slice (some ⟨g, off, none⟩) 12 c) ∧ w.heap.size ≤ g ∧ ∀ n : Nat, n < 12 → w'.cell? ⟨g, off + n, none⟩ = some (.string (S (evWord n)))) ∧ Below w.heap.size w w' := by
  refine (split_mx _ (by decide) w mx).mono ?_
  rintro e w' ⟨⟨v, rfl, hown⟩, b⟩
  obtain ⟨a, c, rfl, ho⟩ := OwnF.of (ok := fun _ => True) hown (fun _ _ => trivial)
  have F := OF.fs lenS ho
  have e : (words (ByteArray.data ⟨#[32, 100, 101, 112, 111, 115, 105, 116, 32, 111, 112, 101, 110, 32, 99, 108, 111, 115, 101, 32, 112, 114, 105, 99, 101, 32, 97, 100, 109, 105, 116, 32, 102, 117, 108, 102, 105, 108, 108, 32, 102, 97, 105, 108, 32, 116, 105, 99, 107, 32, 108, 97, 117, 110, 99, 104, 32, 97, 114, 114, 105, 118, 101, 32, 108, 111, 115, 116]⟩).toList).map S = evWords.map S := congrArg (List.map S) evWords_words
  rw [e] at F ho
  have hl : (evWords.map S).length = 12 := rfl
  rw [hl] at F
  obtain ⟨bk, off, x, ea, hb, hc, -⟩ := F.at_ (k := 0) (by omega)
  subst ea
  refine ⟨⟨bk, off, c, by rw [e, hl], (ho.1.lt bk rfl).1, fun n hn => ?_⟩, b⟩
  obtain ⟨b2, o2, e2, -, hc2⟩ := F.2.2.2 n _ (evWord_get n hn)
  injection e2 with e2
  injection e2 with q1 q2
  subst q1
  subst q2
  have := hc2 0 _ rfl
  rw [show off + n * 1 + 0 = off + n by omega] at this
  exact this
theorem Row.keepG {b g : Nat} {cs : List Value} {w w' : World} (h : Row b cs w) (hp : 0 < cs.length) (hg : w.grownBy w' (some g)) (hne : b ≠ g) : Row b cs w' := by
  have hl := h.lt hp
  have hk := hg.block b hl (by intro e; injection e with e; exact hne e)
  exact ⟨fun j v hj => by rw [World.cell?_of_block (w := w) (a := ⟨b, j, none⟩) hk]; exact h.1 j v hj, fun j hj => by rw [World.frozen?_of_block (w := w) (a := ⟨b, j, none⟩) hk]; exact h.2 j hj⟩
theorem words_pos (l : List UInt8) : 0 < (words l).length := List.length_pos_iff.2 (wordsGo_ne l [])

theorem l04Words_at (w : World) : Calls Tryz.prog 112 #[] w fun e w' => (∃ g, e = .returned (.slice (some ⟨g, 0, none⟩) 12 12) ∧ w.heap.size ≤ g ∧ StS w' w'.heap.size (some ⟨g, 0, none⟩) 12 (evWords.map S)) ∧ Below w.heap.size w w' := by
  go_enter Tryz.func112, Tryz.ntmps112
  go_wp2
  refine bodyPost_ret (by simp only [results, Tryz.results112]; go_simp; rfl) rfl ?_
  exact ⟨⟨_, rfl, Nat.le_refl _, FS.lit1 Value.string _ _ _ _ rfl 12 rfl (by decide) _ rfl⟩, by (repeat (first | (with_reducible exact Below.refl _ _) | (with_reducible assumption) | (with_reducible refine Below.setCell ?_ ?side _; case side => first | (with_reducible exact Nat.le_refl _) | (simp; done) | (simp only [World.size_alloc, World.size_setCell, World.size_drew, World.heap_drewN] at *; omega)) | (with_reducible refine below_alloc ?_ _) | (with_reducible refine Below.drew ?_) | (with_reducible refine below_drewN ?_) | (with_reducible refine below_via (by assumption) ?_)))⟩
set_option maxHeartbeats 1600000 in
theorem l04Has_at (k : Int) (w : World) : Calls Tryz.prog 113 #[.int .i64 k] w fun e w' => (∃ g, e = .returned (.slice (some ⟨g, 0, none⟩) 6 6) ∧ w.heap.size ≤ g ∧ BoS w' w'.heap.size (some ⟨g, 0, none⟩) 6 (hasF k)) ∧ Below w.heap.size w w' := by
  rcases (show k = 1 ∨ k = 2 ∨ k = 4 ∨ k = 3 ∨ k = 5 ∨ k = 9 ∨ k = 8 ∨ (k ≠ 1 ∧ k ≠ 2 ∧ k ≠ 4 ∧ k ≠ 3 ∧ k ≠ 5 ∧ k ≠ 9 ∧ k ≠ 8) by omega) with rfl | rfl | rfl | rfl | rfl | rfl | rfl | ⟨h1, h2, h4, h3, h5, h9, h8⟩
  iterate 7
    · go_enter Tryz.func113, Tryz.ntmps113
      go_wp2
      refine bodyPost_ret (by simp only [results, Tryz.results113]; go_simp; rfl) rfl ?_
      exact ⟨⟨_, rfl, Nat.le_refl _, BoS.lit _ _ _ _ rfl rfl _ rfl⟩, by (repeat (first | (with_reducible exact Below.refl _ _) | (with_reducible assumption) | (with_reducible refine Below.setCell ?_ ?side _; case side => first | (with_reducible exact Nat.le_refl _) | (simp; done) | (simp only [World.size_alloc, World.size_setCell, World.size_drew, World.heap_drewN] at *; omega)) | (with_reducible refine below_alloc ?_ _) | (with_reducible refine Below.drew ?_) | (with_reducible refine below_drewN ?_) | (with_reducible refine below_via (by assumption) ?_)))⟩
  · have e : hasF k = [true, false, false, false, false, false] := by unfold hasF; rw [if_neg h1, if_neg (by omega), if_neg h3, if_neg h5, if_neg h9, if_neg h8]
    rw [e]
    go_enter Tryz.func113, Tryz.ntmps113
    go_wp2
    refine bodyPost_ret (by simp only [results, Tryz.results113]; go_simp; rfl) rfl ?_
    exact ⟨⟨_, rfl, Nat.le_refl _, BoS.lit _ _ _ _ rfl rfl _ rfl⟩, by (repeat (first | (with_reducible exact Below.refl _ _) | (with_reducible assumption) | (with_reducible refine Below.setCell ?_ ?side _; case side => first | (with_reducible exact Nat.le_refl _) | (simp; done) | (simp only [World.size_alloc, World.size_setCell, World.size_drew, World.heap_drewN] at *; omega)) | (with_reducible refine below_alloc ?_ _) | (with_reducible refine Below.drew ?_) | (with_reducible refine below_drewN ?_) | (with_reducible refine below_via (by assumption) ?_)))⟩
/-- the numbers, the first k fields having been looked at -/
def nmL (h : List Bool) (v : List Int) (k : Nat) : List Value := [.int .i64 (if 0 < k then fat h v 0 else 0), .int .i64 (if 1 < k then fat h v 1 else 0), .int .i64 (if 2 < k then fat h v 2 else 0), .int .i64 (if 3 < k then fat h v 3 else 0), .int .i64 (if 4 < k then fat h v 4 else 0)]
theorem nmL_put {h : List Bool} {v : List Int} {k : Nat} (hk : k < 5) {x : Int} (hx : fat h v k = x) : (nmL h v k).take k ++ ([.int .i64 x] ++ (nmL h v k).drop (k + [Value.int .i64 x].length)) = nmL h v (k + 1) := by
  subst hx
  unfold nmL
  rcases (show k = 0 ∨ k = 1 ∨ k = 2 ∨ k = 3 ∨ k = 4 by omega) with rfl | rfl | rfl | rfl | rfl <;> rfl
theorem nmL_skip {h : List Bool} {v : List Int} {k : Nat} (hk : k < 5 → fat h v k = 0) : nmL h v (k + 1) = nmL h v k := by
  unfold nmL
  rcases (show k = 0 ∨ k = 1 ∨ k = 2 ∨ k = 3 ∨ k = 4 ∨ 5 ≤ k by omega) with rfl | rfl | rfl | rfl | rfl | h5
  · simp [hk (by omega)]
  · simp [hk (by omega)]
  · simp [hk (by omega)]
  · simp [hk (by omega)]
  · simp [hk (by omega)]
  · rw [if_pos (by omega), if_pos (by omega), if_pos (by omega), if_pos (by omega), if_pos (by omega), if_pos (by omega), if_pos (by omega), if_pos (by omega), if_pos (by omega), if_pos (by omega)]
theorem nmL_len (h : List Bool) (v : List Int) (k : Nat) : (nmL h v k).length = 5 := rfl
theorem nmL_all (h : List Bool) (v : List Int) {k : Nat} (hk : 5 ≤ k) : nmL h v k = [.int .i64 (fat h v 0), .int .i64 (fat h v 1), .int .i64 (fat h v 2), .int .i64 (fat h v 3), .int .i64 (fat h v 4)] := by
  unfold nmL
  rw [if_pos (by omega), if_pos (by omega), if_pos (by omega), if_pos (by omega), if_pos (by omega)]
/-- the number of the next word -/
def atW (h : List Bool) (v : List Int) (k : Nat) : Nat := 1 + min (cnt (h.take (min k 5))) v.length
theorem atW_yes {h : List Bool} {v : List Int} {k : Nat} (hk : k < 5) (hb : h[k]? = some true) (hv : atW h v k ≤ v.length) : atW h v (k + 1) = atW h v k + 1 ∧ fat h v k = (v[atW h v k - 1]?).getD 0 := by
  have h1 := cnt_step h k true hb
  unfold atW fat at *
  rw [if_pos hb, Nat.min_eq_left (by omega : k + 1 ≤ 5), h1]
  rw [Nat.min_eq_left (by omega : k ≤ 5)] at hv ⊢
  simp only [if_true]
  refine ⟨by omega, ?_⟩
  rw [show 1 + min (cnt (h.take k)) v.length - 1 = cnt (h.take k) by omega]
theorem atW_end {h : List Bool} {v : List Int} {k : Nat} (hk : k < 5) (hb : h[k]? = some true) (hv : ¬ atW h v k ≤ v.length) : atW h v (k + 1) = atW h v k ∧ fat h v k = 0 := by
  have h1 := cnt_step h k true hb
  unfold atW fat at *
  rw [if_pos hb, Nat.min_eq_left (by omega : k + 1 ≤ 5), h1]
  rw [Nat.min_eq_left (by omega : k ≤ 5)] at hv ⊢
  simp only [if_true]
  refine ⟨by omega, ?_⟩
  rw [List.getElem?_eq_none (by omega)]
  rfl
theorem atW_no {h : List Bool} {v : List Int} {k : Nat} (hb : h[k]? = some false) : atW h v (k + 1) = atW h v k ∧ fat h v k = 0 := by
  have h1 := cnt_step h k false hb
  unfold atW fat
  rw [if_neg (by rw [hb]; simp)]
  refine ⟨?_, rfl⟩
  by_cases hk : k < 5
  · rw [Nat.min_eq_left (by omega : k + 1 ≤ 5), Nat.min_eq_left (by omega : k ≤ 5), h1]
    simp
  · rw [Nat.min_eq_right (by omega : 5 ≤ k + 1), Nat.min_eq_right (by omega : 5 ≤ k)]
theorem atW_past {h : List Bool} {v : List Int} {k : Nat} (hk : ¬ k < 5) : atW h v (k + 1) = atW h v k := by
  unfold atW
  rw [Nat.min_eq_right (by omega : 5 ≤ k + 1), Nat.min_eq_right (by omega : 5 ≤ k)]
theorem atW_le (h : List Bool) (v : List Int) (k : Nat) : 1 ≤ atW h v k ∧ atW h v k ≤ v.length + 1 := by unfold atW; omega
theorem kw_0 (w : List UInt8) : kw w 1 = 0 := by unfold kw; split <;> rfl

end Go.Proofs.YtafbdbefmlgioaaGreatDoor
