/- New worlds. -/
import Derived.Test.YtegnlijgjcfmlaaWWorld
import Derived.Test.YtegnlijgjcfmlaaAmt
import Derived.Deep.MidRow
namespace Go.Proofs.Ytegnlijgjcfmlaa
open Go.RowKit
set_option linter.unusedVariables false
set_option linter.unusedSimpArgs false

theorem infoCell : (Try.prog.info? 158).map (fun i => (i.zero, i.size, i.bytes)) = some (some (.agg #[.slice none 0 0]), 1, 24) := by kernel_rfl
theorem zs_of {w : World} {B g n : Nat} {E : TypeId} (h : w.ownsRow B E 1 (.slice (some ⟨g, 0, none⟩) n n) n (List.replicate n (.slice none 0 0))) (hn : n ≤ 600) : ZS w w.heap.size (some ⟨g, 0, none⟩) n (List.replicate n ()) := by
  refine ⟨by simp, by unfold maxLen; omega, by simp, fun i x hx => ⟨g, 0, rfl, (h.lt g rfl).2, fun j v hv => ?_⟩⟩
  have hi : i < n := by have := (List.getElem?_eq_some_iff.1 hx).1; simpa using this
  match j, hv with
  | 0, hv =>
    simp at hv
    subst hv
    have := h.cellAt i (by omega)
    rw [show 0 + i * 1 + 0 = i by omega, this]
    simp [hi]
  | j + 1, hv => simp at hv
theorem ZS.set {w : World} {B g n b o : Nat} {v : Value} {xs : List Unit} (h : ZS w B (some ⟨g, 0, none⟩) n xs) (hne : g ≠ b) : ZS (w.setCell ⟨b, o, none⟩ v) B (some ⟨g, 0, none⟩) n xs := by
  refine ⟨h.1, h.2.1, h.2.2.1, fun i x hx => ?_⟩
  obtain ⟨b', off, e, hb, hc⟩ := h.2.2.2 i x hx
  refine ⟨b', off, e, hb, fun j u hu => ?_⟩
  have hc := hc j u hu
  injection e with e
  injection e with e1 e2
  subst e1
  rw [World.cell?_setCell_other (h := by intro h; injection h with h _; exact hne h.symm)]
  exact hc
def cellsN (n : Int) : Nat := if 1 ≤ n ∧ n ≤ 600 then n.toNat else 0

set_option maxRecDepth 100000 in
set_option maxHeartbeats 3200000 in
theorem diskNew_impl (n : Int) (w : World) : Calls Try.prog 77 #[.int .i64 n] w fun e w' => (∃ (a : Option Addr) (c : Nat) (xs : List Unit), e = .returned (.tuple #[.agg #[.slice a (cellsN n) c, .slice none 0 0], .bool (decide (1 ≤ n ∧ n ≤ 600))]) ∧ ZS w' w'.heap.size a (cellsN n) xs ∧ (∀ p, a = some p → w.heap.size ≤ p.block)) ∧ Below w.heap.size w w' := by
  by_cases h : 1 ≤ n ∧ n ≤ 600
  · obtain ⟨k, rfl⟩ : ∃ k : Nat, n = (k : Int) := ⟨n.toNat, by omega⟩
    have hk : cellsN (k : Int) = k := by unfold cellsN; rw [if_pos h]; omega
    rw [hk, decide_eq_true h]
    obtain ⟨i0, hi, hz0, hz1, hz2⟩ := info_parts infoCell
    have hin : inB (k : Int) 1 600 = true := decide_eq_true h
    go_enter Try.func77, Try.ntmps77
    go_wp2_with (first | (((go_at_call 46; refine (in_impl _ _ _ _).mono ?_); rintro e w1 ⟨rfl, rfl⟩)) | (at_make; refine wpList_make_full _ rfl _ _ _ rfl w.heap.size 158 i0 (.agg #[.slice none 0 0]) 1 Try.underlying56 hi hz0 hz1 .i64 .i64 _ _ k rfl rfl rfl rfl ?b2 ?b3 ?b4 ?_))
    case b2 => rw [hz2]; omega
    case b3 => unfold maxLen; omega
    case b4 => simp
    intro w1 hown hgr
    have hB1 := (show Below w.heap.size w _ from by (repeat (first | (with_reducible exact Below.refl _ _) | (with_reducible assumption) | (with_reducible refine Below.setCell ?_ ?side _; case side => first | (with_reducible exact Nat.le_refl _) | (simp; done) | (simp only [World.size_alloc, World.size_setCell, World.size_drew, World.heap_drewN] at *; omega)) | (with_reducible refine below_alloc ?_ _) | (with_reducible refine Below.drew ?_) | (with_reducible refine below_drewN ?_) | (with_reducible refine below_via (by assumption) ?_)))).grown hgr (by first | exact Nat.le_refl _ | simp) (by simp)
    rw [toList_madeCells_one] at hown
    have z1 := zs_of hown (by omega)
    obtain ⟨hc0, hf0, hs0, hz0⟩ := brules ((Below.refl _ _).grown hgr (Nat.le_refl _) (by simp))
    clear hown hgr
    go_wp2
    refine bodyPost_ret (by simp only [results, Try.results77]; go_simp; rfl) rfl ?_
    refine ⟨?_, by (repeat (first | (with_reducible exact Below.refl _ _) | (with_reducible assumption) | (with_reducible refine Below.setCell ?_ ?side _; case side => first | (with_reducible exact Nat.le_refl _) | (simp; done) | (simp only [World.size_alloc, World.size_setCell, World.size_drew, World.heap_drewN] at *; omega)) | (with_reducible refine below_alloc ?_ _) | (with_reducible refine Below.drew ?_) | (with_reducible refine below_drewN ?_) | (with_reducible refine below_via (by assumption) ?_)))⟩
    have z2 := ZS.set z1 (b := w.heap.size) (o := 0) (v := .slice (some ⟨w.heap.size + 1, 0, none⟩) k k) (by omega)
    have z3 := ZS.set z2 (b := w.heap.size) (o := 1) (v := .slice none 0 0) (by omega)
    first | exact ⟨_, _, _, rfl, by simpa [World.setCell] using z1, by intro p hp; injection hp with hp; subst hp; simp⟩ | exact ⟨_, _, _, rfl, by simpa [World.setCell] using z2, by intro p hp; injection hp with hp; subst hp; simp⟩ | exact ⟨_, _, _, rfl, by simpa [World.setCell] using z3, by intro p hp; injection hp with hp; subst hp; simp⟩
  · rw [decide_eq_false h]
    have hk : cellsN n = 0 := if_neg h
    rw [hk]
    have hin : inB n 1 600 = false := decide_eq_false h
    go_enter Try.func77, Try.ntmps77
    go_wp2_with (((go_at_call 46; refine (in_impl _ _ _ _).mono ?_); rintro e w1 ⟨rfl, rfl⟩))
    all_goals
      refine bodyPost_ret (by simp only [results, Try.results77]; go_simp; rfl) rfl ?_
      refine ⟨?_, by (repeat (first | (with_reducible exact Below.refl _ _) | (with_reducible assumption) | (with_reducible refine Below.setCell ?_ ?side _; case side => first | (with_reducible exact Nat.le_refl _) | (simp; done) | (simp only [World.size_alloc, World.size_setCell, World.size_drew, World.heap_drewN] at *; omega)) | (with_reducible refine below_alloc ?_ _) | (with_reducible refine Below.drew ?_) | (with_reducible refine below_drewN ?_) | (with_reducible refine below_via (by assumption) ?_)))⟩
      have hz := ZS.nil (w.alloc (.cells #[.slice none 0 0, .slice none 0 0] 59)) (w.alloc (.cells #[.slice none 0 0, .slice none 0 0] 59)).heap.size
      first | exact ⟨none, 0, [], rfl, hz, by intro p hp; cases hp⟩ | exact ⟨none, ⟨0, rfl⟩, ⟨[], hz⟩, by intro p hp; cases hp⟩

set_option maxRecDepth 100000 in
set_option maxHeartbeats 3200000 in
theorem diskNew_spec (n : Int) (w : World) : Calls Try.prog 76 #[.int .i64 n] w fun e w' => (∃ (a : Option Addr) (c : Nat) (xs : List Unit), e = .returned (.tuple #[.agg #[.slice a (cellsN n) c, .slice none 0 0], .bool (decide (1 ≤ n ∧ n ≤ 600))]) ∧ ZS w' w'.heap.size a (cellsN n) xs ∧ (∀ p, a = some p → w.heap.size ≤ p.block)) ∧ Below w.heap.size w w' := by
  by_cases h : 1 ≤ n ∧ n ≤ 600
  · obtain ⟨k, rfl⟩ : ∃ k : Nat, n = (k : Int) := ⟨n.toNat, by omega⟩
    have hk : cellsN (k : Int) = k := by unfold cellsN; rw [if_pos h]; omega
    rw [hk, decide_eq_true h]
    obtain ⟨i0, hi, hz0, hz1, hz2⟩ := info_parts infoCell
    have hin : inB (k : Int) 1 600 = true := decide_eq_true h
    go_enter Try.func76, Try.ntmps76
    go_wp2_with (first | (fail) | (at_make; refine wpList_make_full _ rfl _ _ _ rfl w.heap.size 158 i0 (.agg #[.slice none 0 0]) 1 Try.underlying56 hi hz0 hz1 .i64 .i64 _ _ k rfl rfl rfl rfl ?b2 ?b3 ?b4 ?_))
    case b2 => rw [hz2]; omega
    case b3 => unfold maxLen; omega
    case b4 => simp
    intro w1 hown hgr
    have hB1 := (show Below w.heap.size w _ from by (repeat (first | (with_reducible exact Below.refl _ _) | (with_reducible assumption) | (with_reducible refine Below.setCell ?_ ?side _; case side => first | (with_reducible exact Nat.le_refl _) | (simp; done) | (simp only [World.size_alloc, World.size_setCell, World.size_drew, World.heap_drewN] at *; omega)) | (with_reducible refine below_alloc ?_ _) | (with_reducible refine Below.drew ?_) | (with_reducible refine below_drewN ?_) | (with_reducible refine below_via (by assumption) ?_)))).grown hgr (by first | exact Nat.le_refl _ | simp) (by simp)
    rw [toList_madeCells_one] at hown
    have z1 := zs_of hown (by omega)
    obtain ⟨hc0, hf0, hs0, hz0⟩ := brules ((Below.refl _ _).grown hgr (Nat.le_refl _) (by simp))
    clear hown hgr
    go_wp2
    refine bodyPost_ret (by simp only [results, Try.results76]; go_simp; rfl) rfl ?_
    refine ⟨?_, by (repeat (first | (with_reducible exact Below.refl _ _) | (with_reducible assumption) | (with_reducible refine Below.setCell ?_ ?side _; case side => first | (with_reducible exact Nat.le_refl _) | (simp; done) | (simp only [World.size_alloc, World.size_setCell, World.size_drew, World.heap_drewN] at *; omega)) | (with_reducible refine below_alloc ?_ _) | (with_reducible refine Below.drew ?_) | (with_reducible refine below_drewN ?_) | (with_reducible refine below_via (by assumption) ?_)))⟩
    have z2 := ZS.set z1 (b := w.heap.size) (o := 0) (v := .slice (some ⟨w.heap.size + 1, 0, none⟩) k k) (by omega)
    have z3 := ZS.set z2 (b := w.heap.size) (o := 1) (v := .slice none 0 0) (by omega)
    first | exact ⟨_, _, _, rfl, by simpa [World.setCell] using z1, by intro p hp; injection hp with hp; subst hp; simp⟩ | exact ⟨_, _, _, rfl, by simpa [World.setCell] using z2, by intro p hp; injection hp with hp; subst hp; simp⟩ | exact ⟨_, _, _, rfl, by simpa [World.setCell] using z3, by intro p hp; injection hp with hp; subst hp; simp⟩
  · rw [decide_eq_false h]
    have hk : cellsN n = 0 := if_neg h
    rw [hk]
    have hin : inB n 1 600 = false := decide_eq_false h
    go_enter Try.func76, Try.ntmps76
    go_wp2_with (fail)
    all_goals
      refine bodyPost_ret (by simp only [results, Try.results76]; go_simp; rfl) rfl ?_
      refine ⟨?_, by (repeat (first | (with_reducible exact Below.refl _ _) | (with_reducible assumption) | (with_reducible refine Below.setCell ?_ ?side _; case side => first | (with_reducible exact Nat.le_refl _) | (simp; done) | (simp only [World.size_alloc, World.size_setCell, World.size_drew, World.heap_drewN] at *; omega)) | (with_reducible refine below_alloc ?_ _) | (with_reducible refine Below.drew ?_) | (with_reducible refine below_drewN ?_) | (with_reducible refine below_via (by assumption) ?_)))⟩
      have hz := ZS.nil (w.alloc (.cells #[.slice none 0 0, .slice none 0 0] 59)) (w.alloc (.cells #[.slice none 0 0, .slice none 0 0] 59)).heap.size
      first | exact ⟨none, 0, [], rfl, hz, by intro p hp; cases hp⟩ | exact ⟨none, ⟨0, rfl⟩, ⟨[], hz⟩, by intro p hp; cases hp⟩

theorem there_new (w : World) (C : Array Value) (t : TypeId) (n : Nat) (h : n ≤ C.size) : (w.alloc (.cells C t)).there w.heap.size 0 n := by
  intro j hj
  have h1 : j < C.size := by omega
  refine ⟨?_, by simp [go_sem]⟩
  rw [World.cell?_alloc_at _ _ _ _ rfl]
  simp [h1]
theorem there_keep {w w' : World} {b o n : Nat} (h : w.there b o n) (hb : Below w.heap.size w w') (hlt : b < w.heap.size) : w'.there b o n := fun j hj => by
  have := h j hj
  rw [hb.cell (p := ⟨b, o + j, none⟩) hlt, hb.frozen (p := ⟨b, o + j, none⟩) hlt]
  exact this
theorem ZS.setCells {w : World} {B n b o : Nat} {a : Option Addr} {xs : List Unit} {vs : List Value} (h : ZS w B a n xs) (hne : ∀ p, a = some p → b ≠ p.block) : ZS (w.setCells b o vs) B a n xs := by
  refine ⟨h.1, h.2.1, h.2.2.1, fun i x hx => ?_⟩
  obtain ⟨b', off, e, hb, hc⟩ := h.2.2.2 i x hx
  refine ⟨b', off, e, hb, fun j u hu => ?_⟩
  have hn := hne _ e
  rw [World.cell?_setCells_out b vs o w _ (fun h1 _ => absurd h1 (fun q => hn (by simpa using q.symm)))]
  exact hc j u hu
theorem size_setCells : ∀ (vs : List Value) (w : World) (b o : Nat), (w.setCells b o vs).heap.size = w.heap.size
  | [], _, _, _ => rfl
  | v :: r, w, b, o => by rw [World.setCells, size_setCells r]; simp [World.setCell]
theorem below_setCells {B b : Nat} {w : World} (hB : B ≤ b) : ∀ (vs : List Value) (w' : World) (o : Nat), Below B w w' → Below B w (w'.setCells b o vs)
  | [], _, _, h => h
  | v :: r, w', o, h => by rw [World.setCells]; exact below_setCells hB r _ _ (Below.setCell h hB v)
theorem infoWorld : (Try.prog.info? 74).map (·.size) = some 20 := by kernel_rfl
theorem undWorld : ∃ fs, Try.prog.underlying 74 = some (.struct fs) := ⟨_, Try.underlying74⟩
theorem loadWorld (w : World) (b : Nat) (cs : List Value) (h : w.rangeAt b 0 cs) (hl : cs.length = 20) : (loadVar 74 ⟨b, 0, none⟩).run Try.prog w = .ok (.agg cs.toArray) w := by
  obtain ⟨fs, hu⟩ := undWorld
  exact run_loadVar_mid w b 0 _ cs _ h hu rfl (by rw [hl]; exact infoWorld)

def WC (a : Option Addr) (k c : Nat) : List Value := [.bool false, .slice none 0 0, .slice none 0 0, .int .i64 0, .int .i64 0, .int .i64 0, .int .i64 0, .int .i64 0, .slice none 0 0, .slice none 0 0, .slice none 0 0, .int .i64 0, .slice none 0 0, .slice none 0 0, .slice none 0 0, .slice a k c, .slice none 0 0, .slice none 0 0, .slice none 0 0, .slice none 0 0]

set_option maxRecDepth 100000 in
set_option maxHeartbeats 3200000 in
theorem worldNew_impl (n : Int) (w : World) : Calls Try.prog 37 #[.int .i64 n] w fun e w' => (∃ (a : Option Addr) (c : Nat) (xs : List Unit), e = .returned (.tuple #[.agg #[.bool false, .slice none 0 0, .slice none 0 0, .int .i64 0, .int .i64 0, .int .i64 0, .int .i64 0, .int .i64 0, .slice none 0 0, .slice none 0 0, .slice none 0 0, .int .i64 0, .slice none 0 0, .slice none 0 0, .slice none 0 0, .slice a (cellsN n) c, .slice none 0 0, .slice none 0 0, .slice none 0 0, .slice none 0 0], .bool (decide (1 ≤ n ∧ n ≤ 600))]) ∧ ZS w' w'.heap.size a (cellsN n) xs) ∧ Below w.heap.size w w' := by
  go_enter Try.func37, Try.ntmps37
  go_wp2_with fail
  refine (diskNew_impl n _).mono ?_
  rintro e w1 ⟨⟨a, c, xs, rfl, z1, hlo⟩, b1⟩
  have B1 := below_via b1 (by (repeat (first | (with_reducible exact Below.refl _ _) | (with_reducible assumption) | (with_reducible refine Below.setCell ?_ ?side _; case side => first | (with_reducible exact Nat.le_refl _) | (simp; done) | (simp only [World.size_alloc, World.size_setCell, World.size_drew, World.heap_drewN] at *; omega)) | (with_reducible refine below_alloc ?_ _) | (with_reducible refine Below.drew ?_) | (with_reducible refine below_drewN ?_) | (with_reducible refine below_via (by assumption) ?_))) : Below w.heap.size w _)
  have t1 := there_keep (there_new w #[.bool false, .slice none 0 0, .slice none 0 0, .int .i64 0, .int .i64 0, .int .i64 0, .int .i64 0, .int .i64 0, .slice none 0 0, .slice none 0 0, .slice none 0 0, .int .i64 0, .slice none 0 0, .slice none 0 0, .slice none 0 0, .slice none 0 0, .slice none 0 0, .slice none 0 0, .slice none 0 0, .slice none 0 0] 74 20 (by decide)) b1 (by simp)
  obtain ⟨hc0, hf0, hs0, hz0⟩ := brules b1
  clear hc0 hf0 b1
  generalize hk : cellsN n = k at z1 ⊢
  generalize hd : decide (1 ≤ n ∧ n ≤ 600) = D
  have hone : (WC a k c).toArray.all (·.oneCell') = true := all_oneCell_toArray (by simp [WC, Value.oneCell'])
  go_wp2_with (first
    | ((show Go.wpList _ _ _ ((Go.Oper.mk _ (Go.Op.build 74 _) _ _ _ _) :: _) _ _); refine wpList_plain rfl fun K hK => ?_; go_wp2; refine hK _ _ ?_; clear hK)
    | ((show Go.wpList _ _ _ ((Go.Oper.mk _ (Go.Op.move _) _ _ _ _) :: (Go.Oper.mk _ (Go.Op.store 74 _ _) _ _ _ _) :: _) _ _); refine wpList_plain rfl fun K hK => ?_; go_wp2; refine hK _ _ ?_; clear hK)
    | (((show Go.wpList _ _ _ ((Go.Oper.mk _ (Go.Op.store 74 _ _) _ _ _ _) :: _) _ _); refine wpList_store_mid rfl 74 _ _ rfl w.heap.size 0 (WC a k c).toArray rfl rfl ?ht infoWorld hone ?_)))
  case ht => exact World.there_alloc t1 _
  subst hk
  subst hd
  have hX := World.rangeAt_setCells_same (w1.alloc (.cells #[.slice a (cellsN n) c, .slice none 0 0] 59)) w.heap.size 0 (WC a (cellsN n) c) (World.there_alloc t1 _)
  have hL := loadWorld _ _ _ hX rfl
  refine bodyPost_ret (v := .tuple #[.agg (WC a (cellsN n) c).toArray, .bool (decide (1 ≤ n ∧ n ≤ 600))]) (by simp only [results, Try.results37]; simp [hL, asAddr]) rfl ?_
  have hne : ∀ p, a = some p → w.heap.size ≠ p.block := fun p hp => by have := hlo p hp; simp at this; omega
  refine ⟨⟨a, c, xs, rfl, ?_⟩, below_setCells (Nat.le_refl _) _ _ _ (by (repeat (first | (with_reducible exact Below.refl _ _) | (with_reducible assumption) | (with_reducible refine Below.setCell ?_ ?side _; case side => first | (with_reducible exact Nat.le_refl _) | (simp; done) | (simp only [World.size_alloc, World.size_setCell, World.size_drew, World.heap_drewN] at *; omega)) | (with_reducible refine below_alloc ?_ _) | (with_reducible refine Below.drew ?_) | (with_reducible refine below_drewN ?_) | (with_reducible refine below_via (by assumption) ?_))))⟩
  rw [size_setCells]
  exact ZS.setCells (FS.keep z1 (below_alloc (Below.refl _ _) _)) hne

set_option maxRecDepth 100000 in
set_option maxHeartbeats 3200000 in
theorem worldNew_spec (n : Int) (w : World) : Calls Try.prog 36 #[.int .i64 n] w fun e w' => (∃ (a : Option Addr) (c : Nat) (xs : List Unit), e = .returned (.tuple #[.agg #[.bool false, .slice none 0 0, .slice none 0 0, .int .i64 0, .int .i64 0, .int .i64 0, .int .i64 0, .int .i64 0, .slice none 0 0, .slice none 0 0, .slice none 0 0, .int .i64 0, .slice none 0 0, .slice none 0 0, .slice none 0 0, .slice a (cellsN n) c, .slice none 0 0, .slice none 0 0, .slice none 0 0, .slice none 0 0], .bool (decide (1 ≤ n ∧ n ≤ 600))]) ∧ ZS w' w'.heap.size a (cellsN n) xs) ∧ Below w.heap.size w w' := by
  by_cases h : 1 ≤ n ∧ n ≤ 600
  · skip
    go_enter Try.func36, Try.ntmps36
    go_wp2_with fail
    refine (diskNew_spec n _).mono ?_
    rintro e w1 ⟨⟨a, c, xs, rfl, z1, hlo⟩, b1⟩
    rw [decide_eq_true h]
    have B1 := below_via b1 (by (repeat (first | (with_reducible exact Below.refl _ _) | (with_reducible assumption) | (with_reducible refine Below.setCell ?_ ?side _; case side => first | (with_reducible exact Nat.le_refl _) | (simp; done) | (simp only [World.size_alloc, World.size_setCell, World.size_drew, World.heap_drewN] at *; omega)) | (with_reducible refine below_alloc ?_ _) | (with_reducible refine Below.drew ?_) | (with_reducible refine below_drewN ?_) | (with_reducible refine below_via (by assumption) ?_))) : Below w.heap.size w _)
    have t1 := there_keep (there_new w #[.bool false, .slice none 0 0, .slice none 0 0, .int .i64 0, .int .i64 0, .int .i64 0, .int .i64 0, .int .i64 0, .slice none 0 0, .slice none 0 0, .slice none 0 0, .int .i64 0, .slice none 0 0, .slice none 0 0, .slice none 0 0, .slice none 0 0, .slice none 0 0, .slice none 0 0, .slice none 0 0, .slice none 0 0] 74 20 (by decide)) b1 (by simp)
    obtain ⟨hc0, hf0, hs0, hz0⟩ := brules b1
    clear hc0 hf0 b1
    generalize hk : cellsN n = k at z1 ⊢
    have hone : (WC a k c).toArray.all (·.oneCell') = true := all_oneCell_toArray (by simp [WC, Value.oneCell'])
    go_wp2_with (first
      | ((show Go.wpList _ _ _ ((Go.Oper.mk _ (Go.Op.build 74 _) _ _ _ _) :: _) _ _); refine wpList_plain rfl fun K hK => ?_; go_wp2; refine hK _ _ ?_; clear hK)
      | ((show Go.wpList _ _ _ ((Go.Oper.mk _ (Go.Op.move _) _ _ _ _) :: (Go.Oper.mk _ (Go.Op.store 74 _ _) _ _ _ _) :: _) _ _); refine wpList_plain rfl fun K hK => ?_; go_wp2; refine hK _ _ ?_; clear hK)
      | (((show Go.wpList _ _ _ ((Go.Oper.mk _ (Go.Op.store 74 _ _) _ _ _ _) :: _) _ _); refine wpList_store_mid rfl 74 _ _ rfl w.heap.size 0 (WC a k c).toArray rfl rfl ?ht infoWorld hone ?_)))
    case ht => exact World.there_alloc t1 _
    subst hk
    have hX := World.rangeAt_setCells_same (w1.alloc (.cells #[.slice a (cellsN n) c, .slice none 0 0] 59)) w.heap.size 0 (WC a (cellsN n) c) (World.there_alloc t1 _)
    have hL := loadWorld _ _ _ hX rfl
    refine bodyPost_ret (v := .tuple #[.agg (WC a (cellsN n) c).toArray, .bool true]) (by simp only [results, Try.results36]; simp [hL, asAddr]) rfl ?_
    have hne : ∀ p, a = some p → w.heap.size ≠ p.block := fun p hp => by have := hlo p hp; simp at this; omega
    rw [decide_eq_true h]
    refine ⟨⟨a, c, xs, rfl, ?_⟩, below_setCells (Nat.le_refl _) _ _ _ (by (repeat (first | (with_reducible exact Below.refl _ _) | (with_reducible assumption) | (with_reducible refine Below.setCell ?_ ?side _; case side => first | (with_reducible exact Nat.le_refl _) | (simp; done) | (simp only [World.size_alloc, World.size_setCell, World.size_drew, World.heap_drewN] at *; omega)) | (with_reducible refine below_alloc ?_ _) | (with_reducible refine Below.drew ?_) | (with_reducible refine below_drewN ?_) | (with_reducible refine below_via (by assumption) ?_))))⟩
    rw [size_setCells]
    exact ZS.setCells (FS.keep z1 (below_alloc (Below.refl _ _) _)) hne
  · have hk0 : cellsN n = 0 := if_neg h
    go_enter Try.func36, Try.ntmps36
    go_wp2_with fail
    refine (diskNew_spec n _).mono ?_
    rintro e w1 ⟨⟨a, c, xs, rfl, z1, hlo⟩, b1⟩
    rw [decide_eq_false h]
    have B1 := below_via b1 (by (repeat (first | (with_reducible exact Below.refl _ _) | (with_reducible assumption) | (with_reducible refine Below.setCell ?_ ?side _; case side => first | (with_reducible exact Nat.le_refl _) | (simp; done) | (simp only [World.size_alloc, World.size_setCell, World.size_drew, World.heap_drewN] at *; omega)) | (with_reducible refine below_alloc ?_ _) | (with_reducible refine Below.drew ?_) | (with_reducible refine below_drewN ?_) | (with_reducible refine below_via (by assumption) ?_))) : Below w.heap.size w _)
    have t1 := there_keep (there_new w #[.bool false, .slice none 0 0, .slice none 0 0, .int .i64 0, .int .i64 0, .int .i64 0, .int .i64 0, .int .i64 0, .slice none 0 0, .slice none 0 0, .slice none 0 0, .int .i64 0, .slice none 0 0, .slice none 0 0, .slice none 0 0, .slice none 0 0, .slice none 0 0, .slice none 0 0, .slice none 0 0, .slice none 0 0] 74 20 (by decide)) b1 (by simp)
    obtain ⟨hc0, hf0, hs0, hz0⟩ := brules b1
    clear hc0 hf0 b1
    generalize hk : cellsN n = k at z1 ⊢
    have hone : (WC none 0 0).toArray.all (·.oneCell') = true := all_oneCell_toArray (by simp [WC, Value.oneCell'])
    go_wp2_with (first
      | ((show Go.wpList _ _ _ ((Go.Oper.mk _ (Go.Op.build 74 _) _ _ _ _) :: _) _ _); refine wpList_plain rfl fun K hK => ?_; go_wp2; refine hK _ _ ?_; clear hK)
      | ((show Go.wpList _ _ _ ((Go.Oper.mk _ (Go.Op.move _) _ _ _ _) :: (Go.Oper.mk _ (Go.Op.store 74 _ _) _ _ _ _) :: _) _ _); refine wpList_plain rfl fun K hK => ?_; go_wp2; refine hK _ _ ?_; clear hK)
      | (((show Go.wpList _ _ _ ((Go.Oper.mk _ (Go.Op.store 74 _ _) _ _ _ _) :: _) _ _); refine wpList_store_mid rfl 74 _ _ rfl w.heap.size 0 (WC none 0 0).toArray rfl rfl ?ht infoWorld hone ?_)))
    case ht => exact World.there_alloc t1 _
    subst hk
    have hX := World.rangeAt_setCells_same (w1.alloc (.cells #[.slice a (cellsN n) c, .slice none 0 0] 59)) w.heap.size 0 (WC none 0 0) (World.there_alloc t1 _)
    have hL := loadWorld _ _ _ hX rfl
    refine bodyPost_ret (v := .tuple #[.agg (WC none 0 0).toArray, .bool false]) (by simp only [results, Try.results36]; simp [hL, asAddr]) rfl ?_
    rw [decide_eq_false h, hk0]
    refine ⟨⟨none, 0, [], rfl, ?_⟩, below_setCells (Nat.le_refl _) _ _ _ (by (repeat (first | (with_reducible exact Below.refl _ _) | (with_reducible assumption) | (with_reducible refine Below.setCell ?_ ?side _; case side => first | (with_reducible exact Nat.le_refl _) | (simp; done) | (simp only [World.size_alloc, World.size_setCell, World.size_drew, World.heap_drewN] at *; omega)) | (with_reducible refine below_alloc ?_ _) | (with_reducible refine Below.drew ?_) | (with_reducible refine below_drewN ?_) | (with_reducible refine below_via (by assumption) ?_))))⟩
    rw [size_setCells]
    exact ZS.nil _ _

end Go.Proofs.Ytegnlijgjcfmlaa
