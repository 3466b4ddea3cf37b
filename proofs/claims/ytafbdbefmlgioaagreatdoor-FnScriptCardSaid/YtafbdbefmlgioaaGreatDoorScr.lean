/- Scripts: the plain law, and a text's lines. -/
import Derived.Test.YtafbdbefmlgioaaGreatDoorLns
import Derived.Test.YtafbdbefmlgioaaGreatDoorTBill
import Derived.Test.YtafbdbefmlgioaaGreatDoorStK
import Derived.Test.YtafbdbefmlgioaaGreatDoorNestP
import Derived.Test.YtafbdbefmlgioaaGreatDoorTstT
namespace Go.Proofs.YtafbdbefmlgioaaGreatDoor
open Go.RowKit
set_option linter.unusedVariables false
set_option linter.unusedSimpArgs false

theorem ts_keep2 (l : List UInt8) (hl : l.length ≤ 1048576) : (ts l).keep.length ≤ 1048576 ∧ ∀ n ∈ (ts l).keep, -1125899906842624 ≤ n ∧ n ≤ 1125899906842624 := by
  have hw : (tvals (words l)).length ≤ 1048576 := by
    have := wordsGo_len l []
    unfold tvals
    rw [List.length_map, List.length_drop]
    show (wordsGo [] l).length - 1 ≤ _
    omega
  have hn : (numsI (words l)).length ≤ 1048576 := by
    unfold numsI
    split
    · exact hw
    · exact Nat.zero_le _
  cases h : tsOk l with
  | false => rw [ts_no h]; exact ⟨Nat.zero_le _, fun n hn => by cases hn⟩
  | true =>
    rw [ts_yes h]
    unfold tsI tsOf
    split
    · exact ⟨Nat.zero_le _, fun n hn => by cases hn⟩
    · split
      · exact ⟨Nat.zero_le _, fun n hn => by cases hn⟩
      · split
        · exact ⟨Nat.zero_le _, fun n hn => by cases hn⟩
        · split
          · exact ⟨hn, numsI_bd _⟩
          · split
            · unfold rule5; split <;> exact ⟨Nat.zero_le _, fun n hn => by cases hn⟩
            · exact ⟨Nat.zero_le _, fun n hn => by cases hn⟩
theorem St.one (s : St) (a : Option Addr) (c : Nat) : ∀ v ∈ s.cells a c, v.oneCell' = true := StepK_one s (.slice a s.keep.length c) rfl
theorem Bx.set0 {w : World} {b : Nat} {L vs : List Value} (h : Bx w b L) (hl : vs.length = L.length) : Bx (w.setCells b 0 vs) b vs := by
  have := h.set 0 vs (by omega)
  have e : putL L 0 vs = vs := by
    unfold putL
    rw [List.drop_eq_nil_of_le (by omega)]
    simp
  rwa [e] at this
/-- a line that says nothing -/
def quietB (s : ByteArray) : Bool := s.data.toList.isEmpty || s.data.toList.headD 0 == 35
/-- a text's lines: the last, if empty, dropped -/
def lnsOf (l : List UInt8) : List (List UInt8) := if (lns l).getLast? = some [] then (lns l).dropLast else lns l
def rsGo : List St → Nat → List ByteArray → List St × Int
  | out, _, [] => (out, 0)
  | out, i, x :: r => if quietB x = true then rsGo out (i + 1) r else if tsOk x.data.toList = true ∧ out.length < 300 then rsGo (out ++ [ts x.data.toList]) (i + 1) r else ([], (i : Int) + 1)
def script (l : List UInt8) : List St × Int := if 8000 < l.length then ([], 1) else rsGo [] 0 ((lnsOf l).map S)

theorem lnsOf_len (l : List UInt8) : (lnsOf l).length ≤ l.length + 1 := by
  have h := lnsGo_len l []
  unfold lnsOf
  split
  · rw [List.length_dropLast]; show (lnsGo [] l).length - 1 ≤ _; omega
  · exact h
theorem lnsOf_mem (l x : List UInt8) (h : x ∈ lnsOf l) : x.length ≤ l.length := by
  have h2 : x ∈ lns l := by
    unfold lnsOf at h
    split at h
    · exact List.dropLast_subset _ h
    · exact h
  have := lnsGo_mem l [] x h2
  simpa using this
theorem FS.take {α : Type} {enc : α → List Value} {sz : Nat} {ok : α → Prop} {w : World} {B : Nat} {a : Option Addr} {len m : Nat} {xs : List α} (h : FS enc sz ok w B a len xs) (hm : m ≤ len) : FS enc sz ok w B a m (xs.take m) :=
  ⟨by rw [List.length_take]; have := h.1; omega, Nat.le_trans hm h.2.1, fun x hx => h.2.2.1 x (List.mem_of_mem_take hx), fun i x hx => by
    have hi : i < m := by
      have := (List.getElem?_eq_some_iff.1 hx).1
      rw [List.length_take] at this
      omega
    rw [List.getElem?_take_of_lt hi] at hx
    exact h.2.2.2 i x hx⟩
theorem sz_len (s : ByteArray) : s.data.toList.length = s.size := Array.length_toList
theorem quiet_nil : quietB ⟨#[]⟩ = true := rfl
theorem str_ne {s : ByteArray} (h : 0 < s.size) : (s.toList == []) = false ∧ s.toList.isEmpty = false := by
  have h2 : s.toList ≠ [] := fun e => by
    rw [ByteArray.toList_eq] at e
    have h3 := sz_len s
    rw [e] at h3
    simp only [List.length_nil] at h3
    omega
  exact ⟨beq_eq_false_iff_ne.2 h2, by simpa using h2⟩
theorem str_em {s : ByteArray} (h : s.size = 0) : (s.toList == []) = true ∧ s.toList.isEmpty = true := by
  have h2 : s.toList = [] := by
    rw [ByteArray.toList_eq]
    exact List.eq_nil_of_length_eq_zero (by rw [sz_len]; exact h)
  rw [h2]
  exact ⟨rfl, rfl⟩
theorem quiet_em {s : ByteArray} (h : s.size = 0) : quietB s = true := by
  have h2 : s.data.toList = [] := List.eq_nil_of_length_eq_zero (by rw [sz_len]; exact h)
  unfold quietB
  rw [h2]
  rfl
theorem quiet_pos {s : ByteArray} (h : 0 < s.size) : quietB s = (s[0] == 35) := by
  have h2 : s.data.toList = s[0] :: s.data.toList.drop 1 := by
    have := List.drop_eq_getElem_cons (l := s.data.toList) (i := 0) (by rw [sz_len]; exact h)
    rw [List.drop_zero] at this
    exact this
  unfold quietB
  rw [h2]
  rfl
/-- the last line -/
theorem last_ln (l : List UInt8) : ∃ x, (lns l).getLast? = some x ∧ (lns l)[(lns l).length - 1]? = some x ∧ 0 < (lns l).length := by
  have hne : lns l ≠ [] := lnsGo_ne l []
  refine ⟨(lns l).getLast hne, List.getLast?_eq_some_getLast hne, ?_, List.length_pos_iff.2 hne⟩
  rw [← List.getLast?_eq_getElem?]
  exact List.getLast?_eq_some_getLast hne

theorem ON.made {α β : Type} {K : Kd α β} (w : World) : ON K (w.alloc (.cells #[] K.E)) w.heap.size (.slice (some ⟨w.heap.size, 0, none⟩) 0 0) ([] : List α) [] :=
  ⟨rfl, World.ownsRow_made w #[] 0 (Nat.le_refl _) (by simp [maxLen]) (by simp), fun x h => by simp at h, fun i x u h => by simp at h, fun x h => by simp at h, by simp [blks, Value.ownBlock]⟩
/-- lines read, in a block of strings -/
structure LnR (w : World) (a : Option Addr) (n : Nat) (L : List ByteArray) : Prop where
  rd : SS w w.heap.size a n L
  ty : ∀ b off, a = some ⟨b, off, none⟩ → ∃ cur, w.heap[b]? = some (.cells cur 9 (0, 0))
theorem LnR.keep {w w' : World} {a : Option Addr} {n : Nat} {L : List ByteArray} (h : LnR w a n L) (hb : Below w.heap.size w w') : LnR w' a n L :=
  ⟨h.rd.keep hb, fun b off e => by
    obtain ⟨cur, hc⟩ := h.ty b off e
    exact ⟨cur, by rw [hb.block b (List.getElem?_eq_some_iff.1 (by simpa using hc)).1]; exact hc⟩⟩
theorem LnR.grown {w w' : World} {a : Option Addr} {n B : Nat} {L : List ByteArray} {v : Value} {xs : List St} {us : List Value} (h : LnR w a n L) (hv : ON StepK w B v xs us) (hg : w.grownBy w' v.ownBlock) : LnR w' a n L := by
  have hne : ∀ b off, a = some ⟨b, off, none⟩ → b ∉ v.ownBlock.toList := fun b off e hb => by
    obtain ⟨c1, h1⟩ := h.ty b off e
    obtain ⟨c2, h2⟩ := own_ty hv.row b hb
    rw [h1] at h2
    simp at h2
    exact absurd h2.2 (by decide)
  have hx := Ex.of_grown hg
  refine ⟨⟨h.rd.1, h.rd.2.1, h.rd.2.2.1, fun i x hi => ?_⟩, fun b off e => ?_⟩
  · obtain ⟨b, off, e, hlt, hc⟩ := h.rd.2.2.2 i x hi
    exact ⟨b, off, e, Nat.lt_of_lt_of_le hlt hg.size, fun j u hj => hx.cell (hc j u hj) (hne b off e)⟩
  · obtain ⟨cur, hc⟩ := h.ty b off e
    exact ⟨cur, by rw [hx.block b (by rcases Nat.lt_or_ge b w.heap.size with h1 | h1; exact h1; rw [Array.getElem?_eq_none h1] at hc; cases hc) (hne b off e)]; exact hc⟩

set_option maxRecDepth 100000 in
set_option maxHeartbeats 3200000 in
theorem lines_impl (s : ByteArray) (hs : s.size ≤ 1048576) (w : World) (T : LV w) : Calls Tryz.prog 38 #[.string s] w fun e w' => (∃ a n c, e = .returned (.slice a n c) ∧ LnR w' a n ((lnsOf s.data.toList).map S)) ∧ Below w.heap.size w w' := by
  obtain ⟨x, hx, hx2, hpos⟩ := last_ln s.data.toList
  have hcnt := lnsGo_len s.data.toList []
  have hsl : s.data.toList.length = s.size := Array.length_toList
  have hmem : ∀ y ∈ (lns s.data.toList).map S, y.size ≤ 1048576 := fun y hy => by
    obtain ⟨z, hz, rfl⟩ := List.mem_map.1 hy
    have := lnsGo_mem s.data.toList [] z hz
    have h9 := sz_len (S z)
    simp only [List.length_nil] at this
    rw [← h9]
    show z.length ≤ _
    omega
  obtain ⟨W, hW⟩ : ∃ W, W = lns s.data.toList := ⟨_, rfl⟩
  have hlen : W.length ≤ s.size + 1 := by rw [hW]; show (lnsGo [] s.data.toList).length ≤ _; omega
  rw [← hW] at hx hx2 hpos hmem
  have hWo : Hid (lnsOf s.data.toList = if W.getLast? = some [] then W.dropLast else W) := by unfold Hid lnsOf; rw [hW]
  have HW := Lib.hid hW
  have HX := Lib.hid hx
  have HX2 := Lib.hid hx2
  have HM := Lib.hid hmem
  clear hW hx hx2 hmem hcnt hsl
  go_enter Tryz.func38, Tryz.ntmps38
  go_wp2_with fail
  refine (splitL_impl s hs _ T).mono ?_
  rintro e w1 ⟨⟨v, rfl, hown⟩, b1⟩
  rw [← HW.out] at hown
  obtain ⟨a, c, rfl, ho⟩ := OwnF.of (ok := fun s : ByteArray => s.size ≤ 1048576) hown HM.out
  have F : SS w1 w1.heap.size a (W.map S).length (W.map S) := OF.fs lenS ho
  have hcap := ho.capB
  rw [List.length_map] at F hcap
  rw [List.length_map]
  have hty : ∀ b off, a = some ⟨b, off, none⟩ → ∃ cur, w1.heap[b]? = some (.cells cur 9 (0, 0)) := fun b off e => own_ty hown b (by rw [e]; simp [Value.ownBlock])
  have HTY := Lib.hid hty
  clear hown ho hty
  obtain ⟨b, off, y, rfl, hb, -, -, -, -⟩ := FS.at_ F (k := 0) hpos
  have hc0 := SS.cellS F (W.length - 1) (S x) (by rw [List.getElem?_map, HX2.out]; rfl)
  obtain ⟨m, hm⟩ : ∃ m, W.length = m + 1 := ⟨W.length - 1, by omega⟩
  rw [hm] at F hc0 hlen hcap ⊢
  rw [Nat.add_sub_cancel] at hc0
  have e1 : ((m + 1 : Nat) : Int) - 1 = (m : Int) := by omega
  have HF := Lib.hid F
  have HMm := Lib.hid hm
  clear F hm hpos
  have hm0 : (0 : Int) ≤ (m : Int) := by omega
  by_cases hnil : x = []
  · subst hnil
    have hS0 : Hid ((lnsOf s.data.toList).map S = (W.map S).take m) := by
      unfold Hid
      rw [hWo.out, if_pos HX.out, List.dropLast_eq_take, HMm.out, Nat.add_sub_cancel, List.map_take]
    go_wp2
    go_ret
    exact ⟨⟨_, _, _, rfl, by rw [hS0.out]; exact ⟨HF.out.take (by omega), HTY.out⟩⟩, b1⟩
  · have hS0 : Hid ((lnsOf s.data.toList).map S = W.map S) := by
      unfold Hid
      rw [hWo.out, HX.out, if_neg (fun e => hnil (Option.some.inj e))]
    have hne := str_ne (s := S x) (by rw [← sz_len]; exact List.length_pos_iff.2 hnil)
    obtain ⟨q1, q2⟩ := hne
    obtain ⟨y, hy⟩ : ∃ y, y = S x := ⟨_, rfl⟩
    rw [← hy] at q1 q2 hc0
    clear hy hnil
    go_wp2
    go_ret
    exact ⟨⟨_, _, _, rfl, by rw [hS0.out]; exact ⟨HF.out, HTY.out⟩⟩, b1⟩

set_option maxRecDepth 100000 in
set_option maxHeartbeats 3200000 in
theorem lines_spec (s : ByteArray) (hs : s.size ≤ 1048576) (w : World) : Calls Tryz.prog 35 #[.string s] w fun e w' => (∃ a n c, e = .returned (.slice a n c) ∧ LnR w' a n ((lnsOf s.data.toList).map S)) ∧ Below w.heap.size w w' := by
  obtain ⟨x, hx, hx2, hpos⟩ := last_ln s.data.toList
  have hcnt := lnsGo_len s.data.toList []
  have hsl : s.data.toList.length = s.size := Array.length_toList
  have hmem : ∀ y ∈ (lns s.data.toList).map S, y.size ≤ 1048576 := fun y hy => by
    obtain ⟨z, hz, rfl⟩ := List.mem_map.1 hy
    have := lnsGo_mem s.data.toList [] z hz
    have h9 := sz_len (S z)
    simp only [List.length_nil] at this
    rw [← h9]
    show z.length ≤ _
    omega
  obtain ⟨W, hW⟩ : ∃ W, W = lns s.data.toList := ⟨_, rfl⟩
  have hlen : W.length ≤ s.size + 1 := by rw [hW]; show (lnsGo [] s.data.toList).length ≤ _; omega
  rw [← hW] at hx hx2 hpos hmem
  have hWo : Hid (lnsOf s.data.toList = if W.getLast? = some [] then W.dropLast else W) := by unfold Hid lnsOf; rw [hW]
  have HW := Lib.hid hW
  have HX := Lib.hid hx
  have HX2 := Lib.hid hx2
  have HM := Lib.hid hmem
  clear hW hx hx2 hmem hcnt hsl
  go_enter Tryz.func35, Tryz.ntmps35
  go_wp2_with fail
  refine (partsL_spec s hs _).mono ?_
  rintro e w1 ⟨⟨v, rfl, hown⟩, b1⟩
  rw [← HW.out] at hown
  obtain ⟨a, c, rfl, ho⟩ := OwnF.of (ok := fun s : ByteArray => s.size ≤ 1048576) hown HM.out
  have F : SS w1 w1.heap.size a (W.map S).length (W.map S) := OF.fs lenS ho
  have hcap := ho.capB
  rw [List.length_map] at F hcap
  rw [List.length_map]
  have hty : ∀ b off, a = some ⟨b, off, none⟩ → ∃ cur, w1.heap[b]? = some (.cells cur 9 (0, 0)) := fun b off e => own_ty hown b (by rw [e]; simp [Value.ownBlock])
  have HTY := Lib.hid hty
  clear hown ho hty
  obtain ⟨b, off, y, rfl, hb, -, -, -, -⟩ := FS.at_ F (k := 0) hpos
  have hc0 := SS.cellS F (W.length - 1) (S x) (by rw [List.getElem?_map, HX2.out]; rfl)
  obtain ⟨m, hm⟩ : ∃ m, W.length = m + 1 := ⟨W.length - 1, by omega⟩
  rw [hm] at F hc0 hlen hcap ⊢
  rw [Nat.add_sub_cancel] at hc0
  have e1 : ((m + 1 : Nat) : Int) - 1 = (m : Int) := by omega
  have HF := Lib.hid F
  have HMm := Lib.hid hm
  clear F hm hpos
  have hm0 : (0 : Int) ≤ (m : Int) := by omega
  by_cases hnil : x = []
  · subst hnil
    have hS0 : Hid ((lnsOf s.data.toList).map S = (W.map S).take m) := by
      unfold Hid
      rw [hWo.out, if_pos HX.out, List.dropLast_eq_take, HMm.out, Nat.add_sub_cancel, List.map_take]
    go_wp2
    go_ret
    exact ⟨⟨_, _, _, rfl, by rw [hS0.out]; exact ⟨HF.out.take (by omega), HTY.out⟩⟩, b1⟩
  · have hS0 : Hid ((lnsOf s.data.toList).map S = W.map S) := by
      unfold Hid
      rw [hWo.out, HX.out, if_neg (fun e => hnil (Option.some.inj e))]
    have hne := str_ne (s := S x) (by rw [← sz_len]; exact List.length_pos_iff.2 hnil)
    obtain ⟨q1, q2⟩ := hne
    obtain ⟨y, hy⟩ : ∃ y, y = S x := ⟨_, rfl⟩
    rw [← hy] at q1 q2 hc0
    clear hy hnil
    go_wp2
    go_ret
    exact ⟨⟨_, _, _, rfl, by rw [hS0.out]; exact ⟨HF.out, HTY.out⟩⟩, b1⟩

theorem St.text_len (s : St) : s.text.length ≤ 210 + 21 * s.keep.length := by
  unfold St.text stText
  split
  · exact Nat.zero_le _
  split
  · split
    · have := evText_len s.ev.kind s.ev.key s.ev.ch s.ev.to s.ev.amt s.ev.fee s.ev.yes
      have h2 : takeB.length ≤ 10 := by decide
      rw [List.length_append]
      omega
    · exact Nat.zero_le _
  split
  · have h2 : syncB.length ≤ 10 := by decide
    omega
  split
  · have h2 : startB.length ≤ 10 := by decide
    omega
  split
  · split
    · rename_i h
      have h2 : crashB.length ≤ 10 := by decide
      have := tailT_len s.keep (fun x hx => by
        have h1 := List.all_eq_true.1 h x hx
        unfold amtOk inB at h1
        simpa using h1)
      rw [List.length_append]
      omega
    · exact Nat.zero_le _
  split
  · split
    · rename_i h
      have h2 : turnB.length ≤ 10 := by decide
      have := tailT_len [s.lo, s.hi, s.step, s.mn, s.mx] (ruleOk_in h)
      simp only [List.length_append, List.length_cons, List.length_nil] at this ⊢
      omega
    · exact Nat.zero_le _
  · exact Nat.zero_le _

theorem rsGo_len : ∀ (L : List ByteArray) (out : List St) (i : Nat), out.length ≤ 300 → (rsGo out i L).1.length ≤ 300
  | [], out, i, h => h
  | x :: r, out, i, h => by
    unfold rsGo
    split
    · exact rsGo_len r out (i + 1) h
    · split
      · rename_i h2
        exact rsGo_len r _ (i + 1) (by rw [List.length_append, List.length_singleton]; omega)
      · exact Nat.zero_le _
theorem script_len (l : List UInt8) : (script l).1.length ≤ 300 := by
  unfold script
  split
  · exact Nat.zero_le _
  · exact rsGo_len _ _ _ (Nat.zero_le _)
theorem rsGo_mem (P : St → Prop) : ∀ (L : List ByteArray) (out : List St) (i : Nat), (∀ x ∈ out, P x) → (∀ y ∈ L, tsOk y.data.toList = true → P (ts y.data.toList)) → ∀ x ∈ (rsGo out i L).1, P x
  | [], out, i, h, hL => h
  | y :: r, out, i, h, hL => by
    have hr : ∀ y ∈ r, tsOk y.data.toList = true → P (ts y.data.toList) := fun z hz => hL z (List.mem_cons_of_mem _ hz)
    unfold rsGo
    split
    · exact rsGo_mem P r out (i + 1) h hr
    · split
      · rename_i h2
        refine rsGo_mem P r _ (i + 1) (fun x hx => ?_) hr
        rcases List.mem_append.1 hx with hx | hx
        · exact h x hx
        · rw [List.mem_singleton] at hx
          subst hx
          exact hL y List.mem_cons_self h2.1
      · intro x hx
        cases hx
theorem script_mem {l : List UInt8} {x : St} (h : x ∈ (script l).1) : ∃ y : List UInt8, tsOk y = true ∧ x = ts y ∧ y.length ≤ l.length := by
  unfold script at h
  split at h
  · cases h
  · refine rsGo_mem (fun x => ∃ y : List UInt8, tsOk y = true ∧ x = ts y ∧ y.length ≤ l.length) _ _ _ (fun x hx => by cases hx) (fun y hy ht => ?_) x h
    obtain ⟨z, hz, rfl⟩ := List.mem_map.1 hy
    exact ⟨_, ht, rfl, lnsOf_mem l z hz⟩
theorem ts_text {l : List UInt8} (h : tsOk l = true) : (ts l).text = l ∧ l ≠ [] := by
  have h1 := ts_same l
  rw [ts_yes h, ← h1.2 h]
  rw [h] at h1
  exact of_decide_eq_true h1.1
theorem script_ok {l : List UInt8} {x : St} (hl : l.length ≤ 1048576) (h : x ∈ (script l).1) : x.keep.length ≤ 1048576 ∧ (∀ n ∈ x.keep, -1125899906842624 ≤ n ∧ n ≤ 1125899906842624) ∧ x.text ≠ [] ∧ x.text.length ≤ 1048576 ∧ tsOk x.text = true ∧ ts x.text = x := by
  obtain ⟨y, h1, rfl, h3⟩ := script_mem h
  have h4 := ts_keep2 y (by omega)
  have h5 := ts_text h1
  rw [h5.1]
  exact ⟨h4.1, h4.2, h5.2, by omega, h1, rfl⟩

end Go.Proofs.YtafbdbefmlgioaaGreatDoor
