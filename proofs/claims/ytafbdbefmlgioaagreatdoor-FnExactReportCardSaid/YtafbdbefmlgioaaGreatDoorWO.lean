/- Worlds and their parts as values. -/
import Derived.Test.YtafbdbefmlgioaaGreatDoorSCell
import Derived.Test.YtafbdbefmlgioaaGreatDoorLedA
import Derived.Test.YtafbdbefmlgioaaGreatDoorSChan
import Derived.Test.YtafbdbefmlgioaaGreatDoorSHtlc
import Derived.Test.YtafbdbefmlgioaaGreatDoorSCircle
import Derived.Test.YtafbdbefmlgioaaGreatDoorSEvent
import Derived.Test.YtafbdbefmlgioaaGreatDoorIntsW
import Derived.Test.YtafbdbefmlgioaaGreatDoorNestP
import Derived.Test.YtafbdbefmlgioaaGreatDoorStT
import Derived.Test.YtafbdbefmlgioaaGreatDoorModB
import Derived.Deep.MidRow
namespace Go.Proofs.YtafbdbefmlgioaaGreatDoor
open Go.RowKit
set_option linter.unusedVariables false
set_option linter.unusedSimpArgs false

abbrev CnV := VS Cn.enc 7 Cn.ok
abbrev HtV := VS Ht.enc 7 Ht.ok
abbrev CiV := VS Ci.enc 5 Ci.ok
abbrev EvV := VS Ev.enc 7 Ev.ok
/-- a book's three slices read -/
structure BkV (w : World) (B : Nat) (x y z : Value) (b : Bk) : Prop where
  chans : CnV w B x b.chans
  htlcs : HtV w B y b.htlcs
  circles : CiV w B z b.circles
  ints : I64 b.tick ∧ I64 b.next ∧ I64 b.wallet
structure LgV (w : World) (B : Nat) (v : Value) (l : Lg) : Prop where
  lines : LnV w B v l.lines
  int : I64 l.last
structure LoV (w : World) (B : Nat) (c d : Value) (l : Lo) : Prop where
  disk : DkV w B c d l.disk
  ints : I64 l.next ∧ I64 l.epoch
structure HbV (w : World) (B : Nat) (c d x y z l p q : Value) (h : Hb) : Prop where
  log : LoV w B c d h.log
  book : BkV w B x y z h.book
  ledger : LgV w B l h.ledger
  wait : EvV w B p h.wait
  sent : EvV w B q h.sent
structure WdV (w : World) (B : Nat) (c d x y z l p q c2 d2 t s k : Value) (W : Wd) : Prop where
  hub : HbV w B c d x y z l p q W.hub
  disk : DkV w B c2 d2 W.disk
  took : EvV w B t W.took
  sent : EvV w B s W.sent
  codes : InV w B k W.codes

theorem BkV.keepB {w w' : World} {B B' : Nat} {x y z : Value} {m : Bk} (h : BkV w B x y z m) (hb : Below B' w w') (hB : B ≤ B') : BkV w' B x y z m := ⟨h.chans.keepB hb hB, h.htlcs.keepB hb hB, h.circles.keepB hb hB, h.ints⟩
theorem BkV.mono {w : World} {B B' : Nat} {x y z : Value} {m : Bk} (h : BkV w B x y z m) (hB : B ≤ B') : BkV w B' x y z m := ⟨h.chans.mono hB, h.htlcs.mono hB, h.circles.mono hB, h.ints⟩
theorem BkV.keep {w w' : World} {x y z : Value} {m : Bk} (h : BkV w w.heap.size x y z m) (hb : Below w.heap.size w w') : BkV w' w'.heap.size x y z m := ⟨h.chans.keep hb, h.htlcs.keep hb, h.circles.keep hb, h.ints⟩
theorem BkV.ex {w w' : World} {B : Nat} {F : List Nat} {x y z : Value} {m : Bk} (h : BkV w B x y z m) (hx : Ex F w w') (hF : ∀ k ∈ F, B ≤ k) : BkV w' B x y z m := ⟨h.chans.ex hx hF, h.htlcs.ex hx hF, h.circles.ex hx hF, h.ints⟩

theorem LgV.keepB {w w' : World} {B B' : Nat} {v : Value} {m : Lg} (h : LgV w B v m) (hb : Below B' w w') (hB : B ≤ B') : LgV w' B v m := ⟨h.lines.keepB hb hB, h.int⟩
theorem LgV.mono {w : World} {B B' : Nat} {v : Value} {m : Lg} (h : LgV w B v m) (hB : B ≤ B') : LgV w B' v m := ⟨h.lines.mono hB, h.int⟩
theorem LgV.keep {w w' : World} {v : Value} {m : Lg} (h : LgV w w.heap.size v m) (hb : Below w.heap.size w w') : LgV w' w'.heap.size v m := ⟨h.lines.keep hb, h.int⟩
theorem LgV.ex {w w' : World} {B : Nat} {F : List Nat} {v : Value} {m : Lg} (h : LgV w B v m) (hx : Ex F w w') (hF : ∀ k ∈ F, B ≤ k) : LgV w' B v m := ⟨h.lines.ex hx hF, h.int⟩

theorem LoV.keepB {w w' : World} {B B' : Nat} {c d : Value} {m : Lo} (h : LoV w B c d m) (hb : Below B' w w') (hB : B ≤ B') : LoV w' B c d m := ⟨h.disk.keepB hb hB, h.ints⟩
theorem LoV.mono {w : World} {B B' : Nat} {c d : Value} {m : Lo} (h : LoV w B c d m) (hB : B ≤ B') : LoV w B' c d m := ⟨h.disk.mono hB, h.ints⟩
theorem LoV.keep {w w' : World} {c d : Value} {m : Lo} (h : LoV w w.heap.size c d m) (hb : Below w.heap.size w w') : LoV w' w'.heap.size c d m := ⟨h.disk.keep hb, h.ints⟩
theorem LoV.ex {w w' : World} {B : Nat} {F : List Nat} {c d : Value} {m : Lo} (h : LoV w B c d m) (hx : Ex F w w') (hF : ∀ k ∈ F, B ≤ k) : LoV w' B c d m := ⟨h.disk.ex hx hF, h.ints⟩

theorem HbV.keepB {w w' : World} {B B' : Nat} {c d x y z l p q : Value} {m : Hb} (h : HbV w B c d x y z l p q m) (hb : Below B' w w') (hB : B ≤ B') : HbV w' B c d x y z l p q m := ⟨h.log.keepB hb hB, h.book.keepB hb hB, h.ledger.keepB hb hB, h.wait.keepB hb hB, h.sent.keepB hb hB⟩
theorem HbV.mono {w : World} {B B' : Nat} {c d x y z l p q : Value} {m : Hb} (h : HbV w B c d x y z l p q m) (hB : B ≤ B') : HbV w B' c d x y z l p q m := ⟨h.log.mono hB, h.book.mono hB, h.ledger.mono hB, h.wait.mono hB, h.sent.mono hB⟩
theorem HbV.keep {w w' : World} {c d x y z l p q : Value} {m : Hb} (h : HbV w w.heap.size c d x y z l p q m) (hb : Below w.heap.size w w') : HbV w' w'.heap.size c d x y z l p q m := ⟨h.log.keep hb, h.book.keep hb, h.ledger.keep hb, h.wait.keep hb, h.sent.keep hb⟩
theorem HbV.ex {w w' : World} {B : Nat} {F : List Nat} {c d x y z l p q : Value} {m : Hb} (h : HbV w B c d x y z l p q m) (hx : Ex F w w') (hF : ∀ k ∈ F, B ≤ k) : HbV w' B c d x y z l p q m := ⟨h.log.ex hx hF, h.book.ex hx hF, h.ledger.ex hx hF, h.wait.ex hx hF, h.sent.ex hx hF⟩

theorem WdV.keepB {w w' : World} {B B' : Nat} {c d x y z l p q c2 d2 t s k : Value} {m : Wd} (h : WdV w B c d x y z l p q c2 d2 t s k m) (hb : Below B' w w') (hB : B ≤ B') : WdV w' B c d x y z l p q c2 d2 t s k m := ⟨h.hub.keepB hb hB, h.disk.keepB hb hB, h.took.keepB hb hB, h.sent.keepB hb hB, h.codes.keepB hb hB⟩
theorem WdV.mono {w : World} {B B' : Nat} {c d x y z l p q c2 d2 t s k : Value} {m : Wd} (h : WdV w B c d x y z l p q c2 d2 t s k m) (hB : B ≤ B') : WdV w B' c d x y z l p q c2 d2 t s k m := ⟨h.hub.mono hB, h.disk.mono hB, h.took.mono hB, h.sent.mono hB, h.codes.mono hB⟩
theorem WdV.keep {w w' : World} {c d x y z l p q c2 d2 t s k : Value} {m : Wd} (h : WdV w w.heap.size c d x y z l p q c2 d2 t s k m) (hb : Below w.heap.size w w') : WdV w' w'.heap.size c d x y z l p q c2 d2 t s k m := ⟨h.hub.keep hb, h.disk.keep hb, h.took.keep hb, h.sent.keep hb, h.codes.keep hb⟩
theorem WdV.ex {w w' : World} {B : Nat} {F : List Nat} {c d x y z l p q c2 d2 t s k : Value} {m : Wd} (h : WdV w B c d x y z l p q c2 d2 t s k m) (hx : Ex F w w') (hF : ∀ k ∈ F, B ≤ k) : WdV w' B c d x y z l p q c2 d2 t s k m := ⟨h.hub.ex hx hF, h.disk.ex hx hF, h.took.ex hx hF, h.sent.ex hx hF, h.codes.ex hx hF⟩

/-- no slice is too long -/
def DkB (d : Dk) : Prop := (d.cells.length ≤ 1048576 ∧ ∀ x ∈ d.cells, (id x).length ≤ 1048576) ∧ (d.dirty.length ≤ 1048576 ∧ ∀ x ∈ d.dirty, x.bytes.length ≤ 1048576)
def BkB (b : Bk) : Prop := b.chans.length ≤ 1048576 ∧ b.htlcs.length ≤ 1048576 ∧ b.circles.length ≤ 1048576
def LgB (l : Lg) : Prop := l.lines.length ≤ 1048576
def HbB (h : Hb) : Prop := DkB h.log.disk ∧ BkB h.book ∧ LgB h.ledger ∧ h.wait.length ≤ 1048576 ∧ h.sent.length ≤ 1048576
def WdB (W : Wd) : Prop := HbB W.hub ∧ DkB W.disk ∧ W.took.length ≤ 1048576 ∧ W.sent.length ≤ 1048576 ∧ W.codes.length ≤ 1048576

theorem szChanS_v (v : Value) (xs : List Cn) (m : Int) (w : World) (V0 : CnV w w.heap.size v xs) (h0 : 0 ≤ m) (h1 : m ≤ 1048576) : Calls Tryz.prog 90 #[v, .int .i64 m] w fun e w' => (∃ r : Int, e = .returned (.int .i64 r) ∧ (r = -1 ∨ (0 ≤ r ∧ r ≤ m ∧ xs.length ≤ 1048576))) ∧ w = w' := by
  obtain ⟨a, len, cap, rfl, -, -, hs⟩ := V0
  refine (szChanS_any a len cap m w hs.lenB h0 h1).mono ?_
  rintro e w' ⟨rfl, rfl⟩
  have hx := hs.1
  exact ⟨⟨_, rfl, by split <;> omega⟩, rfl⟩

theorem toChanS_v (v : Value) (xs : List Cn) (w : World) (V0 : CnV w w.heap.size v xs) (hlen : xs.length ≤ 1048576) : Calls Tryz.prog 96 #[v] w fun e w' => (∃ u, e = .returned u ∧ OwnF Cn.enc 7 90 w' w.heap.size u xs) ∧ Below w.heap.size w w' := by
  obtain ⟨a, len, cap, rfl, -, -, hs⟩ := V0
  have hx := hs.1
  refine (toChanS_any a len cap xs w hs (by omega)).mono ?_
  rintro e w' ⟨⟨a', c', rfl, ho⟩, hb⟩
  refine ⟨⟨_, rfl, ?_⟩, hb⟩
  have := OF.own ho; exact this

theorem eqChanS_v (v v' : Value) (xs : List Cn) (w : World) (V0 : CnV w w.heap.size v xs) (V1 : CnV w w.heap.size v' xs) : Calls Tryz.prog 106 #[v, v'] w fun e w' => e = .returned (.bool true) ∧ Below w.heap.size w w' := by
  obtain ⟨a, len, cap, rfl, -, -, hs⟩ := V0
  obtain ⟨a', len', cap', rfl, -, -, hs'⟩ := V1
  obtain rfl : len = len' := hs.1.symm.trans hs'.1
  exact eqChanS_any a len cap a' cap' xs w hs hs'

theorem szHtlcS_v (v : Value) (xs : List Ht) (m : Int) (w : World) (V0 : HtV w w.heap.size v xs) (h0 : 0 ≤ m) (h1 : m ≤ 1048576) : Calls Tryz.prog 91 #[v, .int .i64 m] w fun e w' => (∃ r : Int, e = .returned (.int .i64 r) ∧ (r = -1 ∨ (0 ≤ r ∧ r ≤ m ∧ xs.length ≤ 1048576))) ∧ w = w' := by
  obtain ⟨a, len, cap, rfl, -, -, hs⟩ := V0
  refine (szHtlcS_any a len cap m w hs.lenB h0 h1).mono ?_
  rintro e w' ⟨rfl, rfl⟩
  have hx := hs.1
  exact ⟨⟨_, rfl, by split <;> omega⟩, rfl⟩

theorem toHtlcS_v (v : Value) (xs : List Ht) (w : World) (V0 : HtV w w.heap.size v xs) (hlen : xs.length ≤ 1048576) : Calls Tryz.prog 97 #[v] w fun e w' => (∃ u, e = .returned u ∧ OwnF Ht.enc 7 92 w' w.heap.size u xs) ∧ Below w.heap.size w w' := by
  obtain ⟨a, len, cap, rfl, -, -, hs⟩ := V0
  have hx := hs.1
  refine (toHtlcS_any a len cap xs w hs (by omega)).mono ?_
  rintro e w' ⟨⟨a', c', rfl, ho⟩, hb⟩
  refine ⟨⟨_, rfl, ?_⟩, hb⟩
  have := OF.own ho; exact this

theorem eqHtlcS_v (v v' : Value) (xs : List Ht) (w : World) (V0 : HtV w w.heap.size v xs) (V1 : HtV w w.heap.size v' xs) : Calls Tryz.prog 107 #[v, v'] w fun e w' => e = .returned (.bool true) ∧ Below w.heap.size w w' := by
  obtain ⟨a, len, cap, rfl, -, -, hs⟩ := V0
  obtain ⟨a', len', cap', rfl, -, -, hs'⟩ := V1
  obtain rfl : len = len' := hs.1.symm.trans hs'.1
  exact eqHtlcS_any a len cap a' cap' xs w hs hs'

theorem szCircleS_v (v : Value) (xs : List Ci) (m : Int) (w : World) (V0 : CiV w w.heap.size v xs) (h0 : 0 ≤ m) (h1 : m ≤ 1048576) : Calls Tryz.prog 92 #[v, .int .i64 m] w fun e w' => (∃ r : Int, e = .returned (.int .i64 r) ∧ (r = -1 ∨ (0 ≤ r ∧ r ≤ m ∧ xs.length ≤ 1048576))) ∧ w = w' := by
  obtain ⟨a, len, cap, rfl, -, -, hs⟩ := V0
  refine (szCircleS_any a len cap m w hs.lenB h0 h1).mono ?_
  rintro e w' ⟨rfl, rfl⟩
  have hx := hs.1
  exact ⟨⟨_, rfl, by split <;> omega⟩, rfl⟩

theorem toCircleS_v (v : Value) (xs : List Ci) (w : World) (V0 : CiV w w.heap.size v xs) (hlen : xs.length ≤ 1048576) : Calls Tryz.prog 98 #[v] w fun e w' => (∃ u, e = .returned u ∧ OwnF Ci.enc 5 94 w' w.heap.size u xs) ∧ Below w.heap.size w w' := by
  obtain ⟨a, len, cap, rfl, -, -, hs⟩ := V0
  have hx := hs.1
  refine (toCircleS_any a len cap xs w hs (by omega)).mono ?_
  rintro e w' ⟨⟨a', c', rfl, ho⟩, hb⟩
  refine ⟨⟨_, rfl, ?_⟩, hb⟩
  have := OF.own ho; exact this

theorem eqCircleS_v (v v' : Value) (xs : List Ci) (w : World) (V0 : CiV w w.heap.size v xs) (V1 : CiV w w.heap.size v' xs) : Calls Tryz.prog 108 #[v, v'] w fun e w' => e = .returned (.bool true) ∧ Below w.heap.size w w' := by
  obtain ⟨a, len, cap, rfl, -, -, hs⟩ := V0
  obtain ⟨a', len', cap', rfl, -, -, hs'⟩ := V1
  obtain rfl : len = len' := hs.1.symm.trans hs'.1
  exact eqCircleS_any a len cap a' cap' xs w hs hs'

theorem szEventS_v (v : Value) (xs : List Ev) (m : Int) (w : World) (V0 : EvV w w.heap.size v xs) (h0 : 0 ≤ m) (h1 : m ≤ 1048576) : Calls Tryz.prog 21 #[v, .int .i64 m] w fun e w' => (∃ r : Int, e = .returned (.int .i64 r) ∧ (r = -1 ∨ (0 ≤ r ∧ r ≤ m ∧ xs.length ≤ 1048576))) ∧ w = w' := by
  obtain ⟨a, len, cap, rfl, -, -, hs⟩ := V0
  refine (szEventS_any a len cap m w hs.lenB h0 h1).mono ?_
  rintro e w' ⟨rfl, rfl⟩
  have hx := hs.1
  exact ⟨⟨_, rfl, by split <;> omega⟩, rfl⟩

theorem toEventS_v (v : Value) (xs : List Ev) (w : World) (V0 : EvV w w.heap.size v xs) (hlen : xs.length ≤ 1048576) : Calls Tryz.prog 27 #[v] w fun e w' => (∃ u, e = .returned u ∧ OwnF Ev.enc 7 75 w' w.heap.size u xs) ∧ Below w.heap.size w w' := by
  obtain ⟨a, len, cap, rfl, -, -, hs⟩ := V0
  have hx := hs.1
  refine (toEventS_any a len cap xs w hs (by omega)).mono ?_
  rintro e w' ⟨⟨a', c', rfl, ho⟩, hb⟩
  refine ⟨⟨_, rfl, ?_⟩, hb⟩
  have := OF.own ho; exact this

theorem eqEventS_v (v v' : Value) (xs : List Ev) (w : World) (V0 : EvV w w.heap.size v xs) (V1 : EvV w w.heap.size v' xs) : Calls Tryz.prog 33 #[v, v'] w fun e w' => e = .returned (.bool true) ∧ Below w.heap.size w w' := by
  obtain ⟨a, len, cap, rfl, -, -, hs⟩ := V0
  obtain ⟨a', len', cap', rfl, -, -, hs'⟩ := V1
  obtain rfl : len = len' := hs.1.symm.trans hs'.1
  exact eqEventS_any a len cap a' cap' xs w hs hs'

theorem szLineS_v (v : Value) (xs : List Ln) (m : Int) (w : World) (V0 : LnV w w.heap.size v xs) (h0 : 0 ≤ m) (h1 : m ≤ 1048576) : Calls Tryz.prog 93 #[v, .int .i64 m] w fun e w' => (∃ r : Int, e = .returned (.int .i64 r) ∧ (r = -1 ∨ (0 ≤ r ∧ r ≤ m ∧ xs.length ≤ 1048576))) ∧ w = w' := by
  obtain ⟨a, len, cap, rfl, -, -, hs⟩ := V0
  refine (szLineS_any a len cap m w hs.lenB h0 h1).mono ?_
  rintro e w' ⟨rfl, rfl⟩
  have hx := hs.1
  exact ⟨⟨_, rfl, by split <;> omega⟩, rfl⟩

theorem toLineS_v (v : Value) (xs : List Ln) (w : World) (V0 : LnV w w.heap.size v xs) (hlen : xs.length ≤ 1048576) : Calls Tryz.prog 99 #[v] w fun e w' => (∃ u, e = .returned u ∧ OwnF Ln.enc 3 98 w' w.heap.size u xs) ∧ Below w.heap.size w w' := by
  obtain ⟨a, len, cap, rfl, -, -, hs⟩ := V0
  have hx := hs.1
  refine (toLineS_any a len cap xs w hs (by omega)).mono ?_
  rintro e w' ⟨⟨a', c', rfl, ho⟩, hb⟩
  refine ⟨⟨_, rfl, ?_⟩, hb⟩
  have := OF.own ho; exact this

theorem eqLineS_v (v v' : Value) (xs : List Ln) (w : World) (V0 : LnV w w.heap.size v xs) (V1 : LnV w w.heap.size v' xs) : Calls Tryz.prog 109 #[v, v'] w fun e w' => e = .returned (.bool true) ∧ Below w.heap.size w w' := by
  obtain ⟨a, len, cap, rfl, -, -, hs⟩ := V0
  obtain ⟨a', len', cap', rfl, -, -, hs'⟩ := V1
  obtain rfl : len = len' := hs.1.symm.trans hs'.1
  exact eqLineS_any a len cap a' cap' xs w hs hs'

theorem szIntS_v (v : Value) (xs : List Int) (m : Int) (w : World) (V0 : InV w w.heap.size v xs) (h0 : 0 ≤ m) (h1 : m ≤ 1048576) : Calls Tryz.prog 22 #[v, .int .i64 m] w fun e w' => (∃ r : Int, e = .returned (.int .i64 r) ∧ (r = -1 ∨ (0 ≤ r ∧ r ≤ m ∧ xs.length ≤ 1048576))) ∧ w = w' := by
  obtain ⟨a, len, cap, rfl, -, -, hs⟩ := V0
  refine (szIntS_any a len cap m w hs.lenB h0 h1).mono ?_
  rintro e w' ⟨rfl, rfl⟩
  have hx := hs.1
  exact ⟨⟨_, rfl, by split <;> omega⟩, rfl⟩

theorem toIntS_v (v : Value) (xs : List Int) (w : World) (V0 : InV w w.heap.size v xs) (hlen : xs.length ≤ 1048576) : Calls Tryz.prog 28 #[v] w fun e w' => (∃ u, e = .returned u ∧ OwnF inE 1 3 w' w.heap.size u xs) ∧ Below w.heap.size w w' := by
  obtain ⟨a, len, cap, rfl, -, -, hs⟩ := V0
  have hx := hs.1
  refine (toIntS_any a len cap xs w (InV.is hs) (by omega)).mono ?_
  rintro e w' ⟨⟨a', c', rfl, ho⟩, hb⟩
  refine ⟨⟨_, rfl, ?_⟩, hb⟩
  have := OI.own2 ho; exact this

theorem eqIntS_v (v v' : Value) (xs : List Int) (w : World) (V0 : InV w w.heap.size v xs) (V1 : InV w w.heap.size v' xs) : Calls Tryz.prog 34 #[v, v'] w fun e w' => e = .returned (.bool true) ∧ Below w.heap.size w w' := by
  obtain ⟨a, len, cap, rfl, -, -, hs⟩ := V0
  obtain ⟨a', len', cap', rfl, -, -, hs'⟩ := V1
  obtain rfl : len = len' := hs.1.symm.trans hs'.1
  refine (eqIntS_any a len cap a' len cap' xs xs w (InV.is hs) (InV.is hs')).mono ?_
  rintro e w' ⟨rfl, hb⟩
  exact ⟨ret_bool (decide_eq_true rfl), hb⟩

theorem own_nd (v : Value) : v.ownBlock.toList.Nodup := by cases v.ownBlock <;> simp
abbrev CnR := OwnF Cn.enc 7 90
abbrev HtR := OwnF Ht.enc 7 92
abbrev CiR := OwnF Ci.enc 5 94
abbrev EvR := OwnF Ev.enc 7 75
/-- a row of the call's own and what its elements are -/
structure RwO {α : Type} (enc : α → List Value) (sz : Nat) (ok : α → Prop) (E : TypeId) (F : List Nat) (w : World) (B : Nat) (v : Value) (xs : List α) : Prop where
  own : OwnF enc sz E w B v xs
  ok : ∀ x ∈ xs, ok x
  F : F = v.ownBlock.toList
section
variable {α : Type} {enc : α → List Value} {sz : Nat} {ok : α → Prop} {E : TypeId} {F G : List Nat} {w w' : World} {B B' : Nat} {v : Value} {xs : List α}
theorem RwO.mk' (h : OwnF enc sz E w B v xs) (hok : ∀ x ∈ xs, ok x) : RwO enc sz ok E v.ownBlock.toList w B v xs := ⟨h, hok, rfl⟩
theorem RwO.lt (h : RwO enc sz ok E F w B v xs) : ∀ k ∈ F, B ≤ k ∧ k < w.heap.size := by rw [h.F]; exact h.own.blk
theorem RwO.nd (h : RwO enc sz ok E F w B v xs) : F.Nodup := by rw [h.F]; exact own_nd v
theorem RwO.kept (h : RwO enc sz ok E F w B v xs) (hx : Ex G w w') (hn : ∀ k ∈ F, k ∉ G) : RwO enc sz ok E F w' B v xs := ⟨h.own.kept hx (by rw [← h.F]; exact hn), h.ok, h.F⟩
theorem RwO.keep (h : RwO enc sz ok E F w B v xs) (hb : Below w.heap.size w w') : RwO enc sz ok E F w' B v xs := h.kept (Ex.of_below hb []) (fun k _ => by simp)
theorem RwO.le (h : RwO enc sz ok E F w B v xs) (hB : B' ≤ B) : RwO enc sz ok E F w B' v xs := ⟨h.own.le hB, h.ok, h.F⟩
theorem RwO.vw (henc : ∀ x, (enc x).length = sz) (h : RwO enc sz ok E F w B v xs) : VS enc sz ok w w.heap.size v xs := OwnF.vs henc h.own h.ok
end
abbrev CnO2 := RwO Cn.enc 7 Cn.ok 90
abbrev HtO2 := RwO Ht.enc 7 Ht.ok 92
abbrev CiO2 := RwO Ci.enc 5 Ci.ok 94
abbrev EvO2 := RwO Ev.enc 7 Ev.ok 75
abbrev LnO2 := RwO Ln.enc 3 Ln.ok 98
abbrev InO2 := RwO inE 1 I64 3

/-- Bk: all of it the call's own; F: its blocks -/
def BkO (F : List Nat) (w : World) (B : Nat) (x y z : Value) (m : Bk) : Prop := ∃ F0 F1 F2, (CnO2 F0 w B x m.chans ∧ HtO2 F1 w B y m.htlcs ∧ CiO2 F2 w B z m.circles) ∧ F = (F0 ++ F1) ++ F2 ∧ F.Nodup ∧ I64 m.tick ∧ I64 m.next ∧ I64 m.wallet
section
variable {F G : List Nat} {w w' : World} {B B' : Nat} {x y z : Value} {m : Bk}
theorem BkO.nd (h : BkO F w B x y z m) : F.Nodup := by
  obtain ⟨F0, F1, F2, ⟨h0, h1, h2⟩, e, hd, hi⟩ := h
  exact hd
theorem BkO.kept (h : BkO F w B x y z m) (hx : Ex G w w') (hn : ∀ k ∈ F, k ∉ G) : BkO F w' B x y z m := by
  obtain ⟨F0, F1, F2, ⟨h0, h1, h2⟩, e, hd, hi⟩ := h
  subst e
  exact ⟨_, _, _, ⟨h0.kept hx (fun k hk => hn k (List.mem_append_left _ (List.mem_append_left _ (hk)))), h1.kept hx (fun k hk => hn k (List.mem_append_left _ (List.mem_append_right _ (hk)))), h2.kept hx (fun k hk => hn k (List.mem_append_right _ (hk)))⟩, rfl, hd, hi⟩
theorem BkO.keep (h : BkO F w B x y z m) (hb : Below w.heap.size w w') : BkO F w' B x y z m := h.kept (Ex.of_below hb []) (fun k _ => by simp)
theorem BkO.le (h : BkO F w B x y z m) (hB : B' ≤ B) : BkO F w B' x y z m := by
  obtain ⟨F0, F1, F2, ⟨h0, h1, h2⟩, e, hd, hi⟩ := h
  exact ⟨_, _, _, ⟨h0.le hB, h1.le hB, h2.le hB⟩, e, hd, hi⟩
theorem BkO.lt (h : BkO F w B x y z m) : ∀ k ∈ F, B ≤ k ∧ k < w.heap.size := by
  obtain ⟨F0, F1, F2, ⟨h0, h1, h2⟩, e, hd, hi⟩ := h
  subst e
  intro k hk
  rcases List.mem_append.1 hk with hk | hk
  rotate_left
  · exact h2.lt k hk
  rcases List.mem_append.1 hk with hk | hk
  rotate_left
  · exact h1.lt k hk
  exact h0.lt k hk
theorem BkO.vw (h : BkO F w B x y z m) : BkV w w.heap.size x y z m := by
  obtain ⟨F0, F1, F2, ⟨h0, h1, h2⟩, e, hd, hi⟩ := h
  exact ⟨h0.vw (fun _ => rfl), h1.vw (fun _ => rfl), h2.vw (fun _ => rfl), hi⟩
end

/-- Lg: all of it the call's own; F: its blocks -/
def LgO (F : List Nat) (w : World) (B : Nat) (v : Value) (m : Lg) : Prop := ∃ F0, (LnO2 F0 w B v m.lines) ∧ F = F0 ∧ F.Nodup ∧ I64 m.last
section
variable {F G : List Nat} {w w' : World} {B B' : Nat} {v : Value} {m : Lg}
theorem LgO.nd (h : LgO F w B v m) : F.Nodup := by
  obtain ⟨F0, h0, e, hd, hi⟩ := h
  exact hd
theorem LgO.kept (h : LgO F w B v m) (hx : Ex G w w') (hn : ∀ k ∈ F, k ∉ G) : LgO F w' B v m := by
  obtain ⟨F0, h0, e, hd, hi⟩ := h
  subst e
  exact ⟨_, h0.kept hx (fun k hk => hn k (hk)), rfl, hd, hi⟩
theorem LgO.keep (h : LgO F w B v m) (hb : Below w.heap.size w w') : LgO F w' B v m := h.kept (Ex.of_below hb []) (fun k _ => by simp)
theorem LgO.le (h : LgO F w B v m) (hB : B' ≤ B) : LgO F w B' v m := by
  obtain ⟨F0, h0, e, hd, hi⟩ := h
  exact ⟨_, h0.le hB, e, hd, hi⟩
theorem LgO.lt (h : LgO F w B v m) : ∀ k ∈ F, B ≤ k ∧ k < w.heap.size := by
  obtain ⟨F0, h0, e, hd, hi⟩ := h
  subst e
  intro k hk
  exact h0.lt k hk
theorem LgO.vw (h : LgO F w B v m) : LgV w w.heap.size v m := by
  obtain ⟨F0, h0, e, hd, hi⟩ := h
  exact ⟨h0.vw (fun _ => rfl), hi⟩
end

/-- Lo: all of it the call's own; F: its blocks -/
def LoO (F : List Nat) (w : World) (B : Nat) (c d : Value) (m : Lo) : Prop := ∃ F0, (DkO F0 w B c d m.disk) ∧ F = F0 ∧ F.Nodup ∧ I64 m.next ∧ I64 m.epoch
section
variable {F G : List Nat} {w w' : World} {B B' : Nat} {c d : Value} {m : Lo}
theorem LoO.nd (h : LoO F w B c d m) : F.Nodup := by
  obtain ⟨F0, h0, e, hd, hi⟩ := h
  exact hd
theorem LoO.kept (h : LoO F w B c d m) (hx : Ex G w w') (hn : ∀ k ∈ F, k ∉ G) : LoO F w' B c d m := by
  obtain ⟨F0, h0, e, hd, hi⟩ := h
  subst e
  exact ⟨_, h0.kept hx (fun k hk => hn k (hk)), rfl, hd, hi⟩
theorem LoO.keep (h : LoO F w B c d m) (hb : Below w.heap.size w w') : LoO F w' B c d m := h.kept (Ex.of_below hb []) (fun k _ => by simp)
theorem LoO.le (h : LoO F w B c d m) (hB : B' ≤ B) : LoO F w B' c d m := by
  obtain ⟨F0, h0, e, hd, hi⟩ := h
  exact ⟨_, h0.le hB, e, hd, hi⟩
theorem LoO.lt (h : LoO F w B c d m) : ∀ k ∈ F, B ≤ k ∧ k < w.heap.size := by
  obtain ⟨F0, h0, e, hd, hi⟩ := h
  subst e
  intro k hk
  exact h0.lt k hk
theorem LoO.vw (h : LoO F w B c d m) : LoV w w.heap.size c d m := by
  obtain ⟨F0, h0, e, hd, hi⟩ := h
  exact ⟨h0.v, hi⟩
end

/-- Hb: all of it the call's own; F: its blocks -/
def HbO (F : List Nat) (w : World) (B : Nat) (c d x y z l p q : Value) (m : Hb) : Prop := ∃ F0 F1 F2 F3 F4, (LoO F0 w B c d m.log ∧ BkO F1 w B x y z m.book ∧ LgO F2 w B l m.ledger ∧ EvO2 F3 w B p m.wait ∧ EvO2 F4 w B q m.sent) ∧ F = (((F0 ++ F1) ++ F2) ++ F3) ++ F4 ∧ F.Nodup
section
variable {F G : List Nat} {w w' : World} {B B' : Nat} {c d x y z l p q : Value} {m : Hb}
theorem HbO.nd (h : HbO F w B c d x y z l p q m) : F.Nodup := by
  obtain ⟨F0, F1, F2, F3, F4, ⟨h0, h1, h2, h3, h4⟩, e, hd⟩ := h
  exact hd
theorem HbO.kept (h : HbO F w B c d x y z l p q m) (hx : Ex G w w') (hn : ∀ k ∈ F, k ∉ G) : HbO F w' B c d x y z l p q m := by
  obtain ⟨F0, F1, F2, F3, F4, ⟨h0, h1, h2, h3, h4⟩, e, hd⟩ := h
  subst e
  exact ⟨_, _, _, _, _, ⟨h0.kept hx (fun k hk => hn k (List.mem_append_left _ (List.mem_append_left _ (List.mem_append_left _ (List.mem_append_left _ (hk)))))), h1.kept hx (fun k hk => hn k (List.mem_append_left _ (List.mem_append_left _ (List.mem_append_left _ (List.mem_append_right _ (hk)))))), h2.kept hx (fun k hk => hn k (List.mem_append_left _ (List.mem_append_left _ (List.mem_append_right _ (hk))))), h3.kept hx (fun k hk => hn k (List.mem_append_left _ (List.mem_append_right _ (hk)))), h4.kept hx (fun k hk => hn k (List.mem_append_right _ (hk)))⟩, rfl, hd⟩
theorem HbO.keep (h : HbO F w B c d x y z l p q m) (hb : Below w.heap.size w w') : HbO F w' B c d x y z l p q m := h.kept (Ex.of_below hb []) (fun k _ => by simp)
theorem HbO.le (h : HbO F w B c d x y z l p q m) (hB : B' ≤ B) : HbO F w B' c d x y z l p q m := by
  obtain ⟨F0, F1, F2, F3, F4, ⟨h0, h1, h2, h3, h4⟩, e, hd⟩ := h
  exact ⟨_, _, _, _, _, ⟨h0.le hB, h1.le hB, h2.le hB, h3.le hB, h4.le hB⟩, e, hd⟩
theorem HbO.lt (h : HbO F w B c d x y z l p q m) : ∀ k ∈ F, B ≤ k ∧ k < w.heap.size := by
  obtain ⟨F0, F1, F2, F3, F4, ⟨h0, h1, h2, h3, h4⟩, e, hd⟩ := h
  subst e
  intro k hk
  rcases List.mem_append.1 hk with hk | hk
  rotate_left
  · exact h4.lt k hk
  rcases List.mem_append.1 hk with hk | hk
  rotate_left
  · exact h3.lt k hk
  rcases List.mem_append.1 hk with hk | hk
  rotate_left
  · exact h2.lt k hk
  rcases List.mem_append.1 hk with hk | hk
  rotate_left
  · exact h1.lt k hk
  exact h0.lt k hk
theorem HbO.vw (h : HbO F w B c d x y z l p q m) : HbV w w.heap.size c d x y z l p q m := by
  obtain ⟨F0, F1, F2, F3, F4, ⟨h0, h1, h2, h3, h4⟩, e, hd⟩ := h
  exact ⟨h0.vw, h1.vw, h2.vw, h3.vw (fun _ => rfl), h4.vw (fun _ => rfl)⟩
end

/-- Wd: all of it the call's own; F: its blocks -/
def WdO (F : List Nat) (w : World) (B : Nat) (c d x y z l p q c2 d2 t s k : Value) (m : Wd) : Prop := ∃ F0 F1 F2 F3 F4, (HbO F0 w B c d x y z l p q m.hub ∧ DkO F1 w B c2 d2 m.disk ∧ EvO2 F2 w B t m.took ∧ EvO2 F3 w B s m.sent ∧ InO2 F4 w B k m.codes) ∧ F = (((F0 ++ F1) ++ F2) ++ F3) ++ F4 ∧ F.Nodup
section
variable {F G : List Nat} {w w' : World} {B B' : Nat} {c d x y z l p q c2 d2 t s k : Value} {m : Wd}
theorem WdO.nd (h : WdO F w B c d x y z l p q c2 d2 t s k m) : F.Nodup := by
  obtain ⟨F0, F1, F2, F3, F4, ⟨h0, h1, h2, h3, h4⟩, e, hd⟩ := h
  exact hd
theorem WdO.kept (h : WdO F w B c d x y z l p q c2 d2 t s k m) (hx : Ex G w w') (hn : ∀ k ∈ F, k ∉ G) : WdO F w' B c d x y z l p q c2 d2 t s k m := by
  obtain ⟨F0, F1, F2, F3, F4, ⟨h0, h1, h2, h3, h4⟩, e, hd⟩ := h
  subst e
  exact ⟨_, _, _, _, _, ⟨h0.kept hx (fun k hk => hn k (List.mem_append_left _ (List.mem_append_left _ (List.mem_append_left _ (List.mem_append_left _ (hk)))))), h1.kept hx (fun k hk => hn k (List.mem_append_left _ (List.mem_append_left _ (List.mem_append_left _ (List.mem_append_right _ (hk)))))), h2.kept hx (fun k hk => hn k (List.mem_append_left _ (List.mem_append_left _ (List.mem_append_right _ (hk))))), h3.kept hx (fun k hk => hn k (List.mem_append_left _ (List.mem_append_right _ (hk)))), h4.kept hx (fun k hk => hn k (List.mem_append_right _ (hk)))⟩, rfl, hd⟩
theorem WdO.keep (h : WdO F w B c d x y z l p q c2 d2 t s k m) (hb : Below w.heap.size w w') : WdO F w' B c d x y z l p q c2 d2 t s k m := h.kept (Ex.of_below hb []) (fun k _ => by simp)
theorem WdO.le (h : WdO F w B c d x y z l p q c2 d2 t s k m) (hB : B' ≤ B) : WdO F w B' c d x y z l p q c2 d2 t s k m := by
  obtain ⟨F0, F1, F2, F3, F4, ⟨h0, h1, h2, h3, h4⟩, e, hd⟩ := h
  exact ⟨_, _, _, _, _, ⟨h0.le hB, h1.le hB, h2.le hB, h3.le hB, h4.le hB⟩, e, hd⟩
theorem WdO.lt (h : WdO F w B c d x y z l p q c2 d2 t s k m) : ∀ k ∈ F, B ≤ k ∧ k < w.heap.size := by
  obtain ⟨F0, F1, F2, F3, F4, ⟨h0, h1, h2, h3, h4⟩, e, hd⟩ := h
  subst e
  intro k hk
  rcases List.mem_append.1 hk with hk | hk
  rotate_left
  · exact h4.lt k hk
  rcases List.mem_append.1 hk with hk | hk
  rotate_left
  · exact h3.lt k hk
  rcases List.mem_append.1 hk with hk | hk
  rotate_left
  · exact h2.lt k hk
  rcases List.mem_append.1 hk with hk | hk
  rotate_left
  · exact h1.lt k hk
  exact h0.lt k hk
theorem WdO.vw (h : WdO F w B c d x y z l p q c2 d2 t s k m) : WdV w w.heap.size c d x y z l p q c2 d2 t s k m := by
  obtain ⟨F0, F1, F2, F3, F4, ⟨h0, h1, h2, h3, h4⟩, e, hd⟩ := h
  exact ⟨h0.vw, h1.v, h2.vw (fun _ => rfl), h3.vw (fun _ => rfl), h4.vw (fun _ => rfl)⟩
end

set_option maxRecDepth 100000 in
set_option maxHeartbeats 3200000 in
theorem szDisk_any (v0 v1 : Value) (d : Dk) (m : Int) (w : World) (V : DkV w w.heap.size v0 v1 d) (h0 : 0 ≤ m) (h1 : m ≤ 1048576) : Calls Tryz.prog 20 #[.agg #[v0, v1], .int .i64 m] w fun e w' => (∃ r : Int, e = .returned (.int .i64 r) ∧ (r = -1 ∨ (0 ≤ r ∧ r ≤ m ∧ DkB d))) ∧ Below w.heap.size w w' := by
  go_enter Tryz.func20, Tryz.ntmps20
  go_wp2_with fail
  refine (szCellS_any _ d.cells _ _ (V.cells.keep (by (repeat (first | (with_reducible exact Below.refl _ _) | (with_reducible assumption) | (with_reducible refine Below.setCell ?_ ?side _; case side => first | (with_reducible exact Nat.le_refl _) | (simp; done) | (simp only [World.size_alloc, World.size_setCell, World.size_drew, World.heap_drewN] at *; omega)) | (with_reducible refine below_alloc ?_ _) | (with_reducible refine Below.drew ?_) | (with_reducible refine below_drewN ?_) | (with_reducible refine below_via (by assumption) ?_))))) h0 h1).mono ?_
  rintro e w1 ⟨⟨r1, rfl, hr⟩, hb⟩
  have H0 := hb
  obtain ⟨hc0, hf0, hs0, hz0⟩ := brules H0
  have B1 : Below w.heap.size w w1 := below_via hb (by (repeat (first | (with_reducible exact Below.refl _ _) | (with_reducible assumption) | (with_reducible refine Below.setCell ?_ ?side _; case side => first | (with_reducible exact Nat.le_refl _) | (simp; done) | (simp only [World.size_alloc, World.size_setCell, World.size_drew, World.heap_drewN] at *; omega)) | (with_reducible refine below_alloc ?_ _) | (with_reducible refine Below.drew ?_) | (with_reducible refine below_drewN ?_) | (with_reducible refine below_via (by assumption) ?_))))
  clear hb
  rcases hr with rfl | ⟨r1a, r1b, q1⟩
  · go_wp2
    go_ret
    exact ⟨⟨_, rfl, .inl rfl⟩, by (repeat (first | (with_reducible exact Below.refl _ _) | (with_reducible assumption) | (with_reducible refine Below.setCell ?_ ?side _; case side => first | (with_reducible exact Nat.le_refl _) | (simp; done) | (simp only [World.size_alloc, World.size_setCell, World.size_drew, World.heap_drewN] at *; omega)) | (with_reducible refine below_alloc ?_ _) | (with_reducible refine Below.drew ?_) | (with_reducible refine below_drewN ?_) | (with_reducible refine below_via (by assumption) ?_)))⟩
  go_wp2_with fail
  refine (szWriteS_any _ d.dirty _ _ (V.dirty.keep (by (repeat (first | (with_reducible exact Below.refl _ _) | (with_reducible assumption) | (with_reducible refine Below.setCell ?_ ?side _; case side => first | (with_reducible exact Nat.le_refl _) | (simp; done) | (simp only [World.size_alloc, World.size_setCell, World.size_drew, World.heap_drewN] at *; omega)) | (with_reducible refine below_alloc ?_ _) | (with_reducible refine Below.drew ?_) | (with_reducible refine below_drewN ?_) | (with_reducible refine below_via (by assumption) ?_))))) r1a (by omega)).mono ?_
  rintro e w2 ⟨⟨r2, rfl, hr⟩, hb⟩
  replace H0 := below_upd H0 hb (by (repeat (first | (with_reducible exact Below.refl _ _) | (with_reducible assumption) | (with_reducible refine Below.setCell ?_ ?side _; case side => first | (with_reducible exact Nat.le_refl _) | (simp; done) | (simp only [World.size_alloc, World.size_setCell, World.size_drew, World.heap_drewN] at *; omega)) | (with_reducible refine below_alloc ?_ _) | (with_reducible refine Below.drew ?_) | (with_reducible refine below_drewN ?_) | (with_reducible refine below_via (by assumption) ?_))))
  clear hc0 hf0 hs0 hz0
  obtain ⟨hc0, hf0, hs0, hz0⟩ := brules H0
  have B2 : Below w.heap.size w w2 := below_via hb (by (repeat (first | (with_reducible exact Below.refl _ _) | (with_reducible assumption) | (with_reducible refine Below.setCell ?_ ?side _; case side => first | (with_reducible exact Nat.le_refl _) | (simp; done) | (simp only [World.size_alloc, World.size_setCell, World.size_drew, World.heap_drewN] at *; omega)) | (with_reducible refine below_alloc ?_ _) | (with_reducible refine Below.drew ?_) | (with_reducible refine below_drewN ?_) | (with_reducible refine below_via (by assumption) ?_))))
  clear hb
  rcases hr with rfl | ⟨r2a, r2b, q2⟩
  · go_wp2
    go_ret
    exact ⟨⟨_, rfl, .inl rfl⟩, by (repeat (first | (with_reducible exact Below.refl _ _) | (with_reducible assumption) | (with_reducible refine Below.setCell ?_ ?side _; case side => first | (with_reducible exact Nat.le_refl _) | (simp; done) | (simp only [World.size_alloc, World.size_setCell, World.size_drew, World.heap_drewN] at *; omega)) | (with_reducible refine below_alloc ?_ _) | (with_reducible refine Below.drew ?_) | (with_reducible refine below_drewN ?_) | (with_reducible refine below_via (by assumption) ?_)))⟩
  go_wp2_with fail
  go_ret
  exact ⟨⟨_, rfl, .inr ⟨by omega, by omega, q1, q2⟩⟩, by (repeat (first | (with_reducible exact Below.refl _ _) | (with_reducible assumption) | (with_reducible refine Below.setCell ?_ ?side _; case side => first | (with_reducible exact Nat.le_refl _) | (simp; done) | (simp only [World.size_alloc, World.size_setCell, World.size_drew, World.heap_drewN] at *; omega)) | (with_reducible refine below_alloc ?_ _) | (with_reducible refine Below.drew ?_) | (with_reducible refine below_drewN ?_) | (with_reducible refine below_via (by assumption) ?_)))⟩

set_option maxRecDepth 100000 in
set_option maxHeartbeats 3200000 in
theorem szLog_any (v0 v1 : Value) (l : Lo) (m : Int) (w : World) (V : LoV w w.heap.size v0 v1 l) (h0 : 0 ≤ m) (h1 : m ≤ 1048576) : Calls Tryz.prog 53 #[.agg #[v0, v1, .int .i64 l.next, .int .i64 l.epoch], .int .i64 m] w fun e w' => (∃ r : Int, e = .returned (.int .i64 r) ∧ (r = -1 ∨ (0 ≤ r ∧ r ≤ m ∧ DkB l.disk))) ∧ Below w.heap.size w w' := by
  go_enter Tryz.func53, Tryz.ntmps53
  go_wp2_with fail
  refine (szDisk_any _ _ l.disk _ _ (V.disk.keep (by (repeat (first | (with_reducible exact Below.refl _ _) | (with_reducible assumption) | (with_reducible refine Below.setCell ?_ ?side _; case side => first | (with_reducible exact Nat.le_refl _) | (simp; done) | (simp only [World.size_alloc, World.size_setCell, World.size_drew, World.heap_drewN] at *; omega)) | (with_reducible refine below_alloc ?_ _) | (with_reducible refine Below.drew ?_) | (with_reducible refine below_drewN ?_) | (with_reducible refine below_via (by assumption) ?_))))) h0 h1).mono ?_
  rintro e w1 ⟨⟨r1, rfl, hr⟩, hb⟩
  have H0 := hb
  obtain ⟨hc0, hf0, hs0, hz0⟩ := brules H0
  have B1 : Below w.heap.size w w1 := below_via hb (by (repeat (first | (with_reducible exact Below.refl _ _) | (with_reducible assumption) | (with_reducible refine Below.setCell ?_ ?side _; case side => first | (with_reducible exact Nat.le_refl _) | (simp; done) | (simp only [World.size_alloc, World.size_setCell, World.size_drew, World.heap_drewN] at *; omega)) | (with_reducible refine below_alloc ?_ _) | (with_reducible refine Below.drew ?_) | (with_reducible refine below_drewN ?_) | (with_reducible refine below_via (by assumption) ?_))))
  clear hb
  rcases hr with rfl | ⟨r1a, r1b, q1⟩
  · go_wp2
    go_ret
    exact ⟨⟨_, rfl, .inl rfl⟩, by (repeat (first | (with_reducible exact Below.refl _ _) | (with_reducible assumption) | (with_reducible refine Below.setCell ?_ ?side _; case side => first | (with_reducible exact Nat.le_refl _) | (simp; done) | (simp only [World.size_alloc, World.size_setCell, World.size_drew, World.heap_drewN] at *; omega)) | (with_reducible refine below_alloc ?_ _) | (with_reducible refine Below.drew ?_) | (with_reducible refine below_drewN ?_) | (with_reducible refine below_via (by assumption) ?_)))⟩
  go_wp2_with fail
  go_ret
  exact ⟨⟨_, rfl, .inr ⟨by omega, by omega, q1⟩⟩, by (repeat (first | (with_reducible exact Below.refl _ _) | (with_reducible assumption) | (with_reducible refine Below.setCell ?_ ?side _; case side => first | (with_reducible exact Nat.le_refl _) | (simp; done) | (simp only [World.size_alloc, World.size_setCell, World.size_drew, World.heap_drewN] at *; omega)) | (with_reducible refine below_alloc ?_ _) | (with_reducible refine Below.drew ?_) | (with_reducible refine below_drewN ?_) | (with_reducible refine below_via (by assumption) ?_)))⟩

set_option maxRecDepth 100000 in
set_option maxHeartbeats 3200000 in
theorem szBook_any (x y z : Value) (b : Bk) (m : Int) (w : World) (V : BkV w w.heap.size x y z b) (h0 : 0 ≤ m) (h1 : m ≤ 1048576) : Calls Tryz.prog 54 #[.agg #[.int .i64 b.tick, .int .i64 b.next, .int .i64 b.wallet, x, y, z], .int .i64 m] w fun e w' => (∃ r : Int, e = .returned (.int .i64 r) ∧ (r = -1 ∨ (0 ≤ r ∧ r ≤ m ∧ BkB b))) ∧ Below w.heap.size w w' := by
  go_enter Tryz.func54, Tryz.ntmps54
  go_wp2_with fail
  refine (szChanS_v _ b.chans _ _ (V.chans.keep (by (repeat (first | (with_reducible exact Below.refl _ _) | (with_reducible assumption) | (with_reducible refine Below.setCell ?_ ?side _; case side => first | (with_reducible exact Nat.le_refl _) | (simp; done) | (simp only [World.size_alloc, World.size_setCell, World.size_drew, World.heap_drewN] at *; omega)) | (with_reducible refine below_alloc ?_ _) | (with_reducible refine Below.drew ?_) | (with_reducible refine below_drewN ?_) | (with_reducible refine below_via (by assumption) ?_))))) h0 h1).mono ?_
  rintro e wx ⟨⟨r1, rfl, hr⟩, rfl⟩
  rcases hr with rfl | ⟨r1a, r1b, q1⟩
  · go_wp2
    go_ret
    exact ⟨⟨_, rfl, .inl rfl⟩, by (repeat (first | (with_reducible exact Below.refl _ _) | (with_reducible assumption) | (with_reducible refine Below.setCell ?_ ?side _; case side => first | (with_reducible exact Nat.le_refl _) | (simp; done) | (simp only [World.size_alloc, World.size_setCell, World.size_drew, World.heap_drewN] at *; omega)) | (with_reducible refine below_alloc ?_ _) | (with_reducible refine Below.drew ?_) | (with_reducible refine below_drewN ?_) | (with_reducible refine below_via (by assumption) ?_)))⟩
  go_wp2_with fail
  refine (szHtlcS_v _ b.htlcs _ _ (V.htlcs.keep (by (repeat (first | (with_reducible exact Below.refl _ _) | (with_reducible assumption) | (with_reducible refine Below.setCell ?_ ?side _; case side => first | (with_reducible exact Nat.le_refl _) | (simp; done) | (simp only [World.size_alloc, World.size_setCell, World.size_drew, World.heap_drewN] at *; omega)) | (with_reducible refine below_alloc ?_ _) | (with_reducible refine Below.drew ?_) | (with_reducible refine below_drewN ?_) | (with_reducible refine below_via (by assumption) ?_))))) r1a (by omega)).mono ?_
  rintro e wx ⟨⟨r2, rfl, hr⟩, rfl⟩
  rcases hr with rfl | ⟨r2a, r2b, q2⟩
  · go_wp2
    go_ret
    exact ⟨⟨_, rfl, .inl rfl⟩, by (repeat (first | (with_reducible exact Below.refl _ _) | (with_reducible assumption) | (with_reducible refine Below.setCell ?_ ?side _; case side => first | (with_reducible exact Nat.le_refl _) | (simp; done) | (simp only [World.size_alloc, World.size_setCell, World.size_drew, World.heap_drewN] at *; omega)) | (with_reducible refine below_alloc ?_ _) | (with_reducible refine Below.drew ?_) | (with_reducible refine below_drewN ?_) | (with_reducible refine below_via (by assumption) ?_)))⟩
  go_wp2_with fail
  refine (szCircleS_v _ b.circles _ _ (V.circles.keep (by (repeat (first | (with_reducible exact Below.refl _ _) | (with_reducible assumption) | (with_reducible refine Below.setCell ?_ ?side _; case side => first | (with_reducible exact Nat.le_refl _) | (simp; done) | (simp only [World.size_alloc, World.size_setCell, World.size_drew, World.heap_drewN] at *; omega)) | (with_reducible refine below_alloc ?_ _) | (with_reducible refine Below.drew ?_) | (with_reducible refine below_drewN ?_) | (with_reducible refine below_via (by assumption) ?_))))) r2a (by omega)).mono ?_
  rintro e wx ⟨⟨r3, rfl, hr⟩, rfl⟩
  rcases hr with rfl | ⟨r3a, r3b, q3⟩
  · go_wp2
    go_ret
    exact ⟨⟨_, rfl, .inl rfl⟩, by (repeat (first | (with_reducible exact Below.refl _ _) | (with_reducible assumption) | (with_reducible refine Below.setCell ?_ ?side _; case side => first | (with_reducible exact Nat.le_refl _) | (simp; done) | (simp only [World.size_alloc, World.size_setCell, World.size_drew, World.heap_drewN] at *; omega)) | (with_reducible refine below_alloc ?_ _) | (with_reducible refine Below.drew ?_) | (with_reducible refine below_drewN ?_) | (with_reducible refine below_via (by assumption) ?_)))⟩
  go_wp2_with fail
  go_ret
  exact ⟨⟨_, rfl, .inr ⟨by omega, by omega, q1, q2, q3⟩⟩, by (repeat (first | (with_reducible exact Below.refl _ _) | (with_reducible assumption) | (with_reducible refine Below.setCell ?_ ?side _; case side => first | (with_reducible exact Nat.le_refl _) | (simp; done) | (simp only [World.size_alloc, World.size_setCell, World.size_drew, World.heap_drewN] at *; omega)) | (with_reducible refine below_alloc ?_ _) | (with_reducible refine Below.drew ?_) | (with_reducible refine below_drewN ?_) | (with_reducible refine below_via (by assumption) ?_)))⟩

set_option maxRecDepth 100000 in
set_option maxHeartbeats 3200000 in
theorem szLedger_any (v : Value) (l : Lg) (m : Int) (w : World) (V : LgV w w.heap.size v l) (h0 : 0 ≤ m) (h1 : m ≤ 1048576) : Calls Tryz.prog 55 #[.agg #[.int .i64 l.last, v], .int .i64 m] w fun e w' => (∃ r : Int, e = .returned (.int .i64 r) ∧ (r = -1 ∨ (0 ≤ r ∧ r ≤ m ∧ LgB l))) ∧ Below w.heap.size w w' := by
  go_enter Tryz.func55, Tryz.ntmps55
  go_wp2_with fail
  refine (szLineS_v _ l.lines _ _ (V.lines.keep (by (repeat (first | (with_reducible exact Below.refl _ _) | (with_reducible assumption) | (with_reducible refine Below.setCell ?_ ?side _; case side => first | (with_reducible exact Nat.le_refl _) | (simp; done) | (simp only [World.size_alloc, World.size_setCell, World.size_drew, World.heap_drewN] at *; omega)) | (with_reducible refine below_alloc ?_ _) | (with_reducible refine Below.drew ?_) | (with_reducible refine below_drewN ?_) | (with_reducible refine below_via (by assumption) ?_))))) h0 h1).mono ?_
  rintro e wx ⟨⟨r1, rfl, hr⟩, rfl⟩
  rcases hr with rfl | ⟨r1a, r1b, q1⟩
  · go_wp2
    go_ret
    exact ⟨⟨_, rfl, .inl rfl⟩, by (repeat (first | (with_reducible exact Below.refl _ _) | (with_reducible assumption) | (with_reducible refine Below.setCell ?_ ?side _; case side => first | (with_reducible exact Nat.le_refl _) | (simp; done) | (simp only [World.size_alloc, World.size_setCell, World.size_drew, World.heap_drewN] at *; omega)) | (with_reducible refine below_alloc ?_ _) | (with_reducible refine Below.drew ?_) | (with_reducible refine below_drewN ?_) | (with_reducible refine below_via (by assumption) ?_)))⟩
  go_wp2_with fail
  go_ret
  exact ⟨⟨_, rfl, .inr ⟨by omega, by omega, q1⟩⟩, by (repeat (first | (with_reducible exact Below.refl _ _) | (with_reducible assumption) | (with_reducible refine Below.setCell ?_ ?side _; case side => first | (with_reducible exact Nat.le_refl _) | (simp; done) | (simp only [World.size_alloc, World.size_setCell, World.size_drew, World.heap_drewN] at *; omega)) | (with_reducible refine below_alloc ?_ _) | (with_reducible refine Below.drew ?_) | (with_reducible refine below_drewN ?_) | (with_reducible refine below_via (by assumption) ?_)))⟩

set_option maxRecDepth 100000 in
set_option maxHeartbeats 3200000 in
theorem szHub_any (c d x y z l p q : Value) (h : Hb) (m : Int) (w : World) (V : HbV w w.heap.size c d x y z l p q h) (h0 : 0 ≤ m) (h1 : m ≤ 1048576) : Calls Tryz.prog 19 #[.agg #[c, d, .int .i64 h.log.next, .int .i64 h.log.epoch, .int .i64 h.book.tick, .int .i64 h.book.next, .int .i64 h.book.wallet, x, y, z, .int .i64 h.ledger.last, l, p, q], .int .i64 m] w fun e w' => (∃ r : Int, e = .returned (.int .i64 r) ∧ (r = -1 ∨ (0 ≤ r ∧ r ≤ m ∧ HbB h))) ∧ Below w.heap.size w w' := by
  go_enter Tryz.func19, Tryz.ntmps19
  go_wp2_with fail
  refine (szLog_any _ _ h.log _ _ (V.log.keep (by (repeat (first | (with_reducible exact Below.refl _ _) | (with_reducible assumption) | (with_reducible refine Below.setCell ?_ ?side _; case side => first | (with_reducible exact Nat.le_refl _) | (simp; done) | (simp only [World.size_alloc, World.size_setCell, World.size_drew, World.heap_drewN] at *; omega)) | (with_reducible refine below_alloc ?_ _) | (with_reducible refine Below.drew ?_) | (with_reducible refine below_drewN ?_) | (with_reducible refine below_via (by assumption) ?_))))) h0 h1).mono ?_
  rintro e w1 ⟨⟨r1, rfl, hr⟩, hb⟩
  have H0 := hb
  obtain ⟨hc0, hf0, hs0, hz0⟩ := brules H0
  have B1 : Below w.heap.size w w1 := below_via hb (by (repeat (first | (with_reducible exact Below.refl _ _) | (with_reducible assumption) | (with_reducible refine Below.setCell ?_ ?side _; case side => first | (with_reducible exact Nat.le_refl _) | (simp; done) | (simp only [World.size_alloc, World.size_setCell, World.size_drew, World.heap_drewN] at *; omega)) | (with_reducible refine below_alloc ?_ _) | (with_reducible refine Below.drew ?_) | (with_reducible refine below_drewN ?_) | (with_reducible refine below_via (by assumption) ?_))))
  clear hb
  rcases hr with rfl | ⟨r1a, r1b, q1⟩
  · go_wp2
    go_ret
    exact ⟨⟨_, rfl, .inl rfl⟩, by (repeat (first | (with_reducible exact Below.refl _ _) | (with_reducible assumption) | (with_reducible refine Below.setCell ?_ ?side _; case side => first | (with_reducible exact Nat.le_refl _) | (simp; done) | (simp only [World.size_alloc, World.size_setCell, World.size_drew, World.heap_drewN] at *; omega)) | (with_reducible refine below_alloc ?_ _) | (with_reducible refine Below.drew ?_) | (with_reducible refine below_drewN ?_) | (with_reducible refine below_via (by assumption) ?_)))⟩
  go_wp2_with fail
  refine (szBook_any _ _ _ h.book _ _ (V.book.keep (by (repeat (first | (with_reducible exact Below.refl _ _) | (with_reducible assumption) | (with_reducible refine Below.setCell ?_ ?side _; case side => first | (with_reducible exact Nat.le_refl _) | (simp; done) | (simp only [World.size_alloc, World.size_setCell, World.size_drew, World.heap_drewN] at *; omega)) | (with_reducible refine below_alloc ?_ _) | (with_reducible refine Below.drew ?_) | (with_reducible refine below_drewN ?_) | (with_reducible refine below_via (by assumption) ?_))))) r1a (by omega)).mono ?_
  rintro e w2 ⟨⟨r2, rfl, hr⟩, hb⟩
  replace H0 := below_upd H0 hb (by (repeat (first | (with_reducible exact Below.refl _ _) | (with_reducible assumption) | (with_reducible refine Below.setCell ?_ ?side _; case side => first | (with_reducible exact Nat.le_refl _) | (simp; done) | (simp only [World.size_alloc, World.size_setCell, World.size_drew, World.heap_drewN] at *; omega)) | (with_reducible refine below_alloc ?_ _) | (with_reducible refine Below.drew ?_) | (with_reducible refine below_drewN ?_) | (with_reducible refine below_via (by assumption) ?_))))
  clear hc0 hf0 hs0 hz0
  obtain ⟨hc0, hf0, hs0, hz0⟩ := brules H0
  have B2 : Below w.heap.size w w2 := below_via hb (by (repeat (first | (with_reducible exact Below.refl _ _) | (with_reducible assumption) | (with_reducible refine Below.setCell ?_ ?side _; case side => first | (with_reducible exact Nat.le_refl _) | (simp; done) | (simp only [World.size_alloc, World.size_setCell, World.size_drew, World.heap_drewN] at *; omega)) | (with_reducible refine below_alloc ?_ _) | (with_reducible refine Below.drew ?_) | (with_reducible refine below_drewN ?_) | (with_reducible refine below_via (by assumption) ?_))))
  clear hb
  rcases hr with rfl | ⟨r2a, r2b, q2⟩
  · go_wp2
    go_ret
    exact ⟨⟨_, rfl, .inl rfl⟩, by (repeat (first | (with_reducible exact Below.refl _ _) | (with_reducible assumption) | (with_reducible refine Below.setCell ?_ ?side _; case side => first | (with_reducible exact Nat.le_refl _) | (simp; done) | (simp only [World.size_alloc, World.size_setCell, World.size_drew, World.heap_drewN] at *; omega)) | (with_reducible refine below_alloc ?_ _) | (with_reducible refine Below.drew ?_) | (with_reducible refine below_drewN ?_) | (with_reducible refine below_via (by assumption) ?_)))⟩
  go_wp2_with fail
  refine (szLedger_any _ h.ledger _ _ (V.ledger.keep (by (repeat (first | (with_reducible exact Below.refl _ _) | (with_reducible assumption) | (with_reducible refine Below.setCell ?_ ?side _; case side => first | (with_reducible exact Nat.le_refl _) | (simp; done) | (simp only [World.size_alloc, World.size_setCell, World.size_drew, World.heap_drewN] at *; omega)) | (with_reducible refine below_alloc ?_ _) | (with_reducible refine Below.drew ?_) | (with_reducible refine below_drewN ?_) | (with_reducible refine below_via (by assumption) ?_))))) r2a (by omega)).mono ?_
  rintro e w3 ⟨⟨r3, rfl, hr⟩, hb⟩
  replace H0 := below_upd H0 hb (by (repeat (first | (with_reducible exact Below.refl _ _) | (with_reducible assumption) | (with_reducible refine Below.setCell ?_ ?side _; case side => first | (with_reducible exact Nat.le_refl _) | (simp; done) | (simp only [World.size_alloc, World.size_setCell, World.size_drew, World.heap_drewN] at *; omega)) | (with_reducible refine below_alloc ?_ _) | (with_reducible refine Below.drew ?_) | (with_reducible refine below_drewN ?_) | (with_reducible refine below_via (by assumption) ?_))))
  clear hc0 hf0 hs0 hz0
  obtain ⟨hc0, hf0, hs0, hz0⟩ := brules H0
  have B3 : Below w.heap.size w w3 := below_via hb (by (repeat (first | (with_reducible exact Below.refl _ _) | (with_reducible assumption) | (with_reducible refine Below.setCell ?_ ?side _; case side => first | (with_reducible exact Nat.le_refl _) | (simp; done) | (simp only [World.size_alloc, World.size_setCell, World.size_drew, World.heap_drewN] at *; omega)) | (with_reducible refine below_alloc ?_ _) | (with_reducible refine Below.drew ?_) | (with_reducible refine below_drewN ?_) | (with_reducible refine below_via (by assumption) ?_))))
  clear hb
  rcases hr with rfl | ⟨r3a, r3b, q3⟩
  · go_wp2
    go_ret
    exact ⟨⟨_, rfl, .inl rfl⟩, by (repeat (first | (with_reducible exact Below.refl _ _) | (with_reducible assumption) | (with_reducible refine Below.setCell ?_ ?side _; case side => first | (with_reducible exact Nat.le_refl _) | (simp; done) | (simp only [World.size_alloc, World.size_setCell, World.size_drew, World.heap_drewN] at *; omega)) | (with_reducible refine below_alloc ?_ _) | (with_reducible refine Below.drew ?_) | (with_reducible refine below_drewN ?_) | (with_reducible refine below_via (by assumption) ?_)))⟩
  go_wp2_with fail
  refine (szEventS_v _ h.wait _ _ (V.wait.keep (by (repeat (first | (with_reducible exact Below.refl _ _) | (with_reducible assumption) | (with_reducible refine Below.setCell ?_ ?side _; case side => first | (with_reducible exact Nat.le_refl _) | (simp; done) | (simp only [World.size_alloc, World.size_setCell, World.size_drew, World.heap_drewN] at *; omega)) | (with_reducible refine below_alloc ?_ _) | (with_reducible refine Below.drew ?_) | (with_reducible refine below_drewN ?_) | (with_reducible refine below_via (by assumption) ?_))))) r3a (by omega)).mono ?_
  rintro e wx ⟨⟨r4, rfl, hr⟩, rfl⟩
  rcases hr with rfl | ⟨r4a, r4b, q4⟩
  · go_wp2
    go_ret
    exact ⟨⟨_, rfl, .inl rfl⟩, by (repeat (first | (with_reducible exact Below.refl _ _) | (with_reducible assumption) | (with_reducible refine Below.setCell ?_ ?side _; case side => first | (with_reducible exact Nat.le_refl _) | (simp; done) | (simp only [World.size_alloc, World.size_setCell, World.size_drew, World.heap_drewN] at *; omega)) | (with_reducible refine below_alloc ?_ _) | (with_reducible refine Below.drew ?_) | (with_reducible refine below_drewN ?_) | (with_reducible refine below_via (by assumption) ?_)))⟩
  go_wp2_with fail
  refine (szEventS_v _ h.sent _ _ (V.sent.keep (by (repeat (first | (with_reducible exact Below.refl _ _) | (with_reducible assumption) | (with_reducible refine Below.setCell ?_ ?side _; case side => first | (with_reducible exact Nat.le_refl _) | (simp; done) | (simp only [World.size_alloc, World.size_setCell, World.size_drew, World.heap_drewN] at *; omega)) | (with_reducible refine below_alloc ?_ _) | (with_reducible refine Below.drew ?_) | (with_reducible refine below_drewN ?_) | (with_reducible refine below_via (by assumption) ?_))))) r4a (by omega)).mono ?_
  rintro e wx ⟨⟨r5, rfl, hr⟩, rfl⟩
  rcases hr with rfl | ⟨r5a, r5b, q5⟩
  · go_wp2
    go_ret
    exact ⟨⟨_, rfl, .inl rfl⟩, by (repeat (first | (with_reducible exact Below.refl _ _) | (with_reducible assumption) | (with_reducible refine Below.setCell ?_ ?side _; case side => first | (with_reducible exact Nat.le_refl _) | (simp; done) | (simp only [World.size_alloc, World.size_setCell, World.size_drew, World.heap_drewN] at *; omega)) | (with_reducible refine below_alloc ?_ _) | (with_reducible refine Below.drew ?_) | (with_reducible refine below_drewN ?_) | (with_reducible refine below_via (by assumption) ?_)))⟩
  go_wp2_with fail
  go_ret
  exact ⟨⟨_, rfl, .inr ⟨by omega, by omega, q1, q2, q3, q4, q5⟩⟩, by (repeat (first | (with_reducible exact Below.refl _ _) | (with_reducible assumption) | (with_reducible refine Below.setCell ?_ ?side _; case side => first | (with_reducible exact Nat.le_refl _) | (simp; done) | (simp only [World.size_alloc, World.size_setCell, World.size_drew, World.heap_drewN] at *; omega)) | (with_reducible refine below_alloc ?_ _) | (with_reducible refine Below.drew ?_) | (with_reducible refine below_drewN ?_) | (with_reducible refine below_via (by assumption) ?_)))⟩

set_option maxRecDepth 100000 in
set_option maxHeartbeats 3200000 in
theorem szWorld_any (c d x y z l p q c2 d2 t s k : Value) (W : Wd) (m : Int) (w : World) (V : WdV w w.heap.size c d x y z l p q c2 d2 t s k W) (h0 : 0 ≤ m) (h1 : m ≤ 1048576) : Calls Tryz.prog 6 #[.agg #[.bool W.up, c, d, .int .i64 W.hub.log.next, .int .i64 W.hub.log.epoch, .int .i64 W.hub.book.tick, .int .i64 W.hub.book.next, .int .i64 W.hub.book.wallet, x, y, z, .int .i64 W.hub.ledger.last, l, p, q, c2, d2, t, s, k], .int .i64 m] w fun e w' => (∃ r : Int, e = .returned (.int .i64 r) ∧ (r = -1 ∨ (0 ≤ r ∧ r ≤ m ∧ WdB W))) ∧ Below w.heap.size w w' := by
  go_enter Tryz.func6, Tryz.ntmps6
  go_wp2_with fail
  refine (szHub_any _ _ _ _ _ _ _ _ W.hub _ _ (V.hub.keep (by (repeat (first | (with_reducible exact Below.refl _ _) | (with_reducible assumption) | (with_reducible refine Below.setCell ?_ ?side _; case side => first | (with_reducible exact Nat.le_refl _) | (simp; done) | (simp only [World.size_alloc, World.size_setCell, World.size_drew, World.heap_drewN] at *; omega)) | (with_reducible refine below_alloc ?_ _) | (with_reducible refine Below.drew ?_) | (with_reducible refine below_drewN ?_) | (with_reducible refine below_via (by assumption) ?_))))) h0 h1).mono ?_
  rintro e w1 ⟨⟨r1, rfl, hr⟩, hb⟩
  have H0 := hb
  obtain ⟨hc0, hf0, hs0, hz0⟩ := brules H0
  have B1 : Below w.heap.size w w1 := below_via hb (by (repeat (first | (with_reducible exact Below.refl _ _) | (with_reducible assumption) | (with_reducible refine Below.setCell ?_ ?side _; case side => first | (with_reducible exact Nat.le_refl _) | (simp; done) | (simp only [World.size_alloc, World.size_setCell, World.size_drew, World.heap_drewN] at *; omega)) | (with_reducible refine below_alloc ?_ _) | (with_reducible refine Below.drew ?_) | (with_reducible refine below_drewN ?_) | (with_reducible refine below_via (by assumption) ?_))))
  clear hb
  rcases hr with rfl | ⟨r1a, r1b, q1⟩
  · go_wp2
    go_ret
    exact ⟨⟨_, rfl, .inl rfl⟩, by (repeat (first | (with_reducible exact Below.refl _ _) | (with_reducible assumption) | (with_reducible refine Below.setCell ?_ ?side _; case side => first | (with_reducible exact Nat.le_refl _) | (simp; done) | (simp only [World.size_alloc, World.size_setCell, World.size_drew, World.heap_drewN] at *; omega)) | (with_reducible refine below_alloc ?_ _) | (with_reducible refine Below.drew ?_) | (with_reducible refine below_drewN ?_) | (with_reducible refine below_via (by assumption) ?_)))⟩
  go_wp2_with fail
  refine (szDisk_any _ _ W.disk _ _ (V.disk.keep (by (repeat (first | (with_reducible exact Below.refl _ _) | (with_reducible assumption) | (with_reducible refine Below.setCell ?_ ?side _; case side => first | (with_reducible exact Nat.le_refl _) | (simp; done) | (simp only [World.size_alloc, World.size_setCell, World.size_drew, World.heap_drewN] at *; omega)) | (with_reducible refine below_alloc ?_ _) | (with_reducible refine Below.drew ?_) | (with_reducible refine below_drewN ?_) | (with_reducible refine below_via (by assumption) ?_))))) r1a (by omega)).mono ?_
  rintro e w2 ⟨⟨r2, rfl, hr⟩, hb⟩
  replace H0 := below_upd H0 hb (by (repeat (first | (with_reducible exact Below.refl _ _) | (with_reducible assumption) | (with_reducible refine Below.setCell ?_ ?side _; case side => first | (with_reducible exact Nat.le_refl _) | (simp; done) | (simp only [World.size_alloc, World.size_setCell, World.size_drew, World.heap_drewN] at *; omega)) | (with_reducible refine below_alloc ?_ _) | (with_reducible refine Below.drew ?_) | (with_reducible refine below_drewN ?_) | (with_reducible refine below_via (by assumption) ?_))))
  clear hc0 hf0 hs0 hz0
  obtain ⟨hc0, hf0, hs0, hz0⟩ := brules H0
  have B2 : Below w.heap.size w w2 := below_via hb (by (repeat (first | (with_reducible exact Below.refl _ _) | (with_reducible assumption) | (with_reducible refine Below.setCell ?_ ?side _; case side => first | (with_reducible exact Nat.le_refl _) | (simp; done) | (simp only [World.size_alloc, World.size_setCell, World.size_drew, World.heap_drewN] at *; omega)) | (with_reducible refine below_alloc ?_ _) | (with_reducible refine Below.drew ?_) | (with_reducible refine below_drewN ?_) | (with_reducible refine below_via (by assumption) ?_))))
  clear hb
  rcases hr with rfl | ⟨r2a, r2b, q2⟩
  · go_wp2
    go_ret
    exact ⟨⟨_, rfl, .inl rfl⟩, by (repeat (first | (with_reducible exact Below.refl _ _) | (with_reducible assumption) | (with_reducible refine Below.setCell ?_ ?side _; case side => first | (with_reducible exact Nat.le_refl _) | (simp; done) | (simp only [World.size_alloc, World.size_setCell, World.size_drew, World.heap_drewN] at *; omega)) | (with_reducible refine below_alloc ?_ _) | (with_reducible refine Below.drew ?_) | (with_reducible refine below_drewN ?_) | (with_reducible refine below_via (by assumption) ?_)))⟩
  go_wp2_with fail
  refine (szEventS_v _ W.took _ _ (V.took.keep (by (repeat (first | (with_reducible exact Below.refl _ _) | (with_reducible assumption) | (with_reducible refine Below.setCell ?_ ?side _; case side => first | (with_reducible exact Nat.le_refl _) | (simp; done) | (simp only [World.size_alloc, World.size_setCell, World.size_drew, World.heap_drewN] at *; omega)) | (with_reducible refine below_alloc ?_ _) | (with_reducible refine Below.drew ?_) | (with_reducible refine below_drewN ?_) | (with_reducible refine below_via (by assumption) ?_))))) r2a (by omega)).mono ?_
  rintro e wx ⟨⟨r3, rfl, hr⟩, rfl⟩
  rcases hr with rfl | ⟨r3a, r3b, q3⟩
  · go_wp2
    go_ret
    exact ⟨⟨_, rfl, .inl rfl⟩, by (repeat (first | (with_reducible exact Below.refl _ _) | (with_reducible assumption) | (with_reducible refine Below.setCell ?_ ?side _; case side => first | (with_reducible exact Nat.le_refl _) | (simp; done) | (simp only [World.size_alloc, World.size_setCell, World.size_drew, World.heap_drewN] at *; omega)) | (with_reducible refine below_alloc ?_ _) | (with_reducible refine Below.drew ?_) | (with_reducible refine below_drewN ?_) | (with_reducible refine below_via (by assumption) ?_)))⟩
  go_wp2_with fail
  refine (szEventS_v _ W.sent _ _ (V.sent.keep (by (repeat (first | (with_reducible exact Below.refl _ _) | (with_reducible assumption) | (with_reducible refine Below.setCell ?_ ?side _; case side => first | (with_reducible exact Nat.le_refl _) | (simp; done) | (simp only [World.size_alloc, World.size_setCell, World.size_drew, World.heap_drewN] at *; omega)) | (with_reducible refine below_alloc ?_ _) | (with_reducible refine Below.drew ?_) | (with_reducible refine below_drewN ?_) | (with_reducible refine below_via (by assumption) ?_))))) r3a (by omega)).mono ?_
  rintro e wx ⟨⟨r4, rfl, hr⟩, rfl⟩
  rcases hr with rfl | ⟨r4a, r4b, q4⟩
  · go_wp2
    go_ret
    exact ⟨⟨_, rfl, .inl rfl⟩, by (repeat (first | (with_reducible exact Below.refl _ _) | (with_reducible assumption) | (with_reducible refine Below.setCell ?_ ?side _; case side => first | (with_reducible exact Nat.le_refl _) | (simp; done) | (simp only [World.size_alloc, World.size_setCell, World.size_drew, World.heap_drewN] at *; omega)) | (with_reducible refine below_alloc ?_ _) | (with_reducible refine Below.drew ?_) | (with_reducible refine below_drewN ?_) | (with_reducible refine below_via (by assumption) ?_)))⟩
  go_wp2_with fail
  refine (szIntS_v _ W.codes _ _ (V.codes.keep (by (repeat (first | (with_reducible exact Below.refl _ _) | (with_reducible assumption) | (with_reducible refine Below.setCell ?_ ?side _; case side => first | (with_reducible exact Nat.le_refl _) | (simp; done) | (simp only [World.size_alloc, World.size_setCell, World.size_drew, World.heap_drewN] at *; omega)) | (with_reducible refine below_alloc ?_ _) | (with_reducible refine Below.drew ?_) | (with_reducible refine below_drewN ?_) | (with_reducible refine below_via (by assumption) ?_))))) r4a (by omega)).mono ?_
  rintro e wx ⟨⟨r5, rfl, hr⟩, rfl⟩
  rcases hr with rfl | ⟨r5a, r5b, q5⟩
  · go_wp2
    go_ret
    exact ⟨⟨_, rfl, .inl rfl⟩, by (repeat (first | (with_reducible exact Below.refl _ _) | (with_reducible assumption) | (with_reducible refine Below.setCell ?_ ?side _; case side => first | (with_reducible exact Nat.le_refl _) | (simp; done) | (simp only [World.size_alloc, World.size_setCell, World.size_drew, World.heap_drewN] at *; omega)) | (with_reducible refine below_alloc ?_ _) | (with_reducible refine Below.drew ?_) | (with_reducible refine below_drewN ?_) | (with_reducible refine below_via (by assumption) ?_)))⟩
  go_wp2_with fail
  go_ret
  exact ⟨⟨_, rfl, .inr ⟨by omega, by omega, q1, q2, q3, q4, q5⟩⟩, by (repeat (first | (with_reducible exact Below.refl _ _) | (with_reducible assumption) | (with_reducible refine Below.setCell ?_ ?side _; case side => first | (with_reducible exact Nat.le_refl _) | (simp; done) | (simp only [World.size_alloc, World.size_setCell, World.size_drew, World.heap_drewN] at *; omega)) | (with_reducible refine below_alloc ?_ _) | (with_reducible refine Below.drew ?_) | (with_reducible refine below_drewN ?_) | (with_reducible refine below_via (by assumption) ?_)))⟩

set_option maxRecDepth 100000 in
set_option maxHeartbeats 6400000 in
theorem eqDisk_any (v0 v1 v0' v1' : Value) (d : Dk) (w : World) (V : DkV w w.heap.size v0 v1 d) (V' : DkV w w.heap.size v0' v1' d) : Calls Tryz.prog 32 #[.agg #[v0, v1], .agg #[v0', v1']] w fun e w' => e = .returned (.bool true) ∧ Below w.heap.size w w' := by
  go_enter Tryz.func32, Tryz.ntmps32
  go_wp2_with fail
  refine (eqCellS_any _ _ d.cells _ (V.cells.keep (by (repeat (first | (with_reducible exact Below.refl _ _) | (with_reducible assumption) | (with_reducible refine Below.setCell ?_ ?side _; case side => first | (with_reducible exact Nat.le_refl _) | (simp; done) | (simp only [World.size_alloc, World.size_setCell, World.size_drew, World.heap_drewN] at *; omega)) | (with_reducible refine below_alloc ?_ _) | (with_reducible refine Below.drew ?_) | (with_reducible refine below_drewN ?_) | (with_reducible refine below_via (by assumption) ?_))))) (V'.cells.keep (by (repeat (first | (with_reducible exact Below.refl _ _) | (with_reducible assumption) | (with_reducible refine Below.setCell ?_ ?side _; case side => first | (with_reducible exact Nat.le_refl _) | (simp; done) | (simp only [World.size_alloc, World.size_setCell, World.size_drew, World.heap_drewN] at *; omega)) | (with_reducible refine below_alloc ?_ _) | (with_reducible refine Below.drew ?_) | (with_reducible refine below_drewN ?_) | (with_reducible refine below_via (by assumption) ?_)))))).mono ?_
  rintro e w1 ⟨rfl, hb⟩
  have H0 := hb
  obtain ⟨hc0, hf0, hs0, hz0⟩ := brules H0
  have B1 : Below w.heap.size w w1 := below_via hb (by (repeat (first | (with_reducible exact Below.refl _ _) | (with_reducible assumption) | (with_reducible refine Below.setCell ?_ ?side _; case side => first | (with_reducible exact Nat.le_refl _) | (simp; done) | (simp only [World.size_alloc, World.size_setCell, World.size_drew, World.heap_drewN] at *; omega)) | (with_reducible refine below_alloc ?_ _) | (with_reducible refine Below.drew ?_) | (with_reducible refine below_drewN ?_) | (with_reducible refine below_via (by assumption) ?_))))
  clear hb
  go_wp2_with fail
  refine (eqWriteS_any _ _ d.dirty _ (V.dirty.keep (by (repeat (first | (with_reducible exact Below.refl _ _) | (with_reducible assumption) | (with_reducible refine Below.setCell ?_ ?side _; case side => first | (with_reducible exact Nat.le_refl _) | (simp; done) | (simp only [World.size_alloc, World.size_setCell, World.size_drew, World.heap_drewN] at *; omega)) | (with_reducible refine below_alloc ?_ _) | (with_reducible refine Below.drew ?_) | (with_reducible refine below_drewN ?_) | (with_reducible refine below_via (by assumption) ?_))))) (V'.dirty.keep (by (repeat (first | (with_reducible exact Below.refl _ _) | (with_reducible assumption) | (with_reducible refine Below.setCell ?_ ?side _; case side => first | (with_reducible exact Nat.le_refl _) | (simp; done) | (simp only [World.size_alloc, World.size_setCell, World.size_drew, World.heap_drewN] at *; omega)) | (with_reducible refine below_alloc ?_ _) | (with_reducible refine Below.drew ?_) | (with_reducible refine below_drewN ?_) | (with_reducible refine below_via (by assumption) ?_)))))).mono ?_
  rintro e w2 ⟨rfl, hb⟩
  replace H0 := below_upd H0 hb (by (repeat (first | (with_reducible exact Below.refl _ _) | (with_reducible assumption) | (with_reducible refine Below.setCell ?_ ?side _; case side => first | (with_reducible exact Nat.le_refl _) | (simp; done) | (simp only [World.size_alloc, World.size_setCell, World.size_drew, World.heap_drewN] at *; omega)) | (with_reducible refine below_alloc ?_ _) | (with_reducible refine Below.drew ?_) | (with_reducible refine below_drewN ?_) | (with_reducible refine below_via (by assumption) ?_))))
  clear hc0 hf0 hs0 hz0
  obtain ⟨hc0, hf0, hs0, hz0⟩ := brules H0
  have B2 : Below w.heap.size w w2 := below_via hb (by (repeat (first | (with_reducible exact Below.refl _ _) | (with_reducible assumption) | (with_reducible refine Below.setCell ?_ ?side _; case side => first | (with_reducible exact Nat.le_refl _) | (simp; done) | (simp only [World.size_alloc, World.size_setCell, World.size_drew, World.heap_drewN] at *; omega)) | (with_reducible refine below_alloc ?_ _) | (with_reducible refine Below.drew ?_) | (with_reducible refine below_drewN ?_) | (with_reducible refine below_via (by assumption) ?_))))
  clear hb
  go_wp2
  go_ret
  exact ⟨rfl, by (repeat (first | (with_reducible exact Below.refl _ _) | (with_reducible assumption) | (with_reducible refine Below.setCell ?_ ?side _; case side => first | (with_reducible exact Nat.le_refl _) | (simp; done) | (simp only [World.size_alloc, World.size_setCell, World.size_drew, World.heap_drewN] at *; omega)) | (with_reducible refine below_alloc ?_ _) | (with_reducible refine Below.drew ?_) | (with_reducible refine below_drewN ?_) | (with_reducible refine below_via (by assumption) ?_)))⟩

set_option maxRecDepth 100000 in
set_option maxHeartbeats 6400000 in
theorem eqLog_any (v0 v1 v0' v1' : Value) (l : Lo) (w : World) (V : LoV w w.heap.size v0 v1 l) (V' : LoV w w.heap.size v0' v1' l) : Calls Tryz.prog 69 #[.agg #[v0, v1, .int .i64 l.next, .int .i64 l.epoch], .agg #[v0', v1', .int .i64 l.next, .int .i64 l.epoch]] w fun e w' => e = .returned (.bool true) ∧ Below w.heap.size w w' := by
  go_enter Tryz.func69, Tryz.ntmps69
  go_wp2_with fail
  refine (eqDisk_any _ _ _ _ l.disk _ (V.disk.keep (by (repeat (first | (with_reducible exact Below.refl _ _) | (with_reducible assumption) | (with_reducible refine Below.setCell ?_ ?side _; case side => first | (with_reducible exact Nat.le_refl _) | (simp; done) | (simp only [World.size_alloc, World.size_setCell, World.size_drew, World.heap_drewN] at *; omega)) | (with_reducible refine below_alloc ?_ _) | (with_reducible refine Below.drew ?_) | (with_reducible refine below_drewN ?_) | (with_reducible refine below_via (by assumption) ?_))))) (V'.disk.keep (by (repeat (first | (with_reducible exact Below.refl _ _) | (with_reducible assumption) | (with_reducible refine Below.setCell ?_ ?side _; case side => first | (with_reducible exact Nat.le_refl _) | (simp; done) | (simp only [World.size_alloc, World.size_setCell, World.size_drew, World.heap_drewN] at *; omega)) | (with_reducible refine below_alloc ?_ _) | (with_reducible refine Below.drew ?_) | (with_reducible refine below_drewN ?_) | (with_reducible refine below_via (by assumption) ?_)))))).mono ?_
  rintro e w1 ⟨rfl, hb⟩
  have H0 := hb
  obtain ⟨hc0, hf0, hs0, hz0⟩ := brules H0
  have B1 : Below w.heap.size w w1 := below_via hb (by (repeat (first | (with_reducible exact Below.refl _ _) | (with_reducible assumption) | (with_reducible refine Below.setCell ?_ ?side _; case side => first | (with_reducible exact Nat.le_refl _) | (simp; done) | (simp only [World.size_alloc, World.size_setCell, World.size_drew, World.heap_drewN] at *; omega)) | (with_reducible refine below_alloc ?_ _) | (with_reducible refine Below.drew ?_) | (with_reducible refine below_drewN ?_) | (with_reducible refine below_via (by assumption) ?_))))
  clear hb
  go_wp2
  go_ret
  exact ⟨rfl, by (repeat (first | (with_reducible exact Below.refl _ _) | (with_reducible assumption) | (with_reducible refine Below.setCell ?_ ?side _; case side => first | (with_reducible exact Nat.le_refl _) | (simp; done) | (simp only [World.size_alloc, World.size_setCell, World.size_drew, World.heap_drewN] at *; omega)) | (with_reducible refine below_alloc ?_ _) | (with_reducible refine Below.drew ?_) | (with_reducible refine below_drewN ?_) | (with_reducible refine below_via (by assumption) ?_)))⟩

set_option maxRecDepth 100000 in
set_option maxHeartbeats 6400000 in
theorem eqBook_any (x y z x' y' z' : Value) (b : Bk) (w : World) (V : BkV w w.heap.size x y z b) (V' : BkV w w.heap.size x' y' z' b) : Calls Tryz.prog 70 #[.agg #[.int .i64 b.tick, .int .i64 b.next, .int .i64 b.wallet, x, y, z], .agg #[.int .i64 b.tick, .int .i64 b.next, .int .i64 b.wallet, x', y', z']] w fun e w' => e = .returned (.bool true) ∧ Below w.heap.size w w' := by
  go_enter Tryz.func70, Tryz.ntmps70
  go_wp2_with fail
  refine (eqChanS_v _ _ b.chans _ (V.chans.keep (by (repeat (first | (with_reducible exact Below.refl _ _) | (with_reducible assumption) | (with_reducible refine Below.setCell ?_ ?side _; case side => first | (with_reducible exact Nat.le_refl _) | (simp; done) | (simp only [World.size_alloc, World.size_setCell, World.size_drew, World.heap_drewN] at *; omega)) | (with_reducible refine below_alloc ?_ _) | (with_reducible refine Below.drew ?_) | (with_reducible refine below_drewN ?_) | (with_reducible refine below_via (by assumption) ?_))))) (V'.chans.keep (by (repeat (first | (with_reducible exact Below.refl _ _) | (with_reducible assumption) | (with_reducible refine Below.setCell ?_ ?side _; case side => first | (with_reducible exact Nat.le_refl _) | (simp; done) | (simp only [World.size_alloc, World.size_setCell, World.size_drew, World.heap_drewN] at *; omega)) | (with_reducible refine below_alloc ?_ _) | (with_reducible refine Below.drew ?_) | (with_reducible refine below_drewN ?_) | (with_reducible refine below_via (by assumption) ?_)))))).mono ?_
  rintro e w1 ⟨rfl, hb⟩
  have H0 := hb
  obtain ⟨hc0, hf0, hs0, hz0⟩ := brules H0
  have B1 : Below w.heap.size w w1 := below_via hb (by (repeat (first | (with_reducible exact Below.refl _ _) | (with_reducible assumption) | (with_reducible refine Below.setCell ?_ ?side _; case side => first | (with_reducible exact Nat.le_refl _) | (simp; done) | (simp only [World.size_alloc, World.size_setCell, World.size_drew, World.heap_drewN] at *; omega)) | (with_reducible refine below_alloc ?_ _) | (with_reducible refine Below.drew ?_) | (with_reducible refine below_drewN ?_) | (with_reducible refine below_via (by assumption) ?_))))
  clear hb
  go_wp2_with fail
  refine (eqHtlcS_v _ _ b.htlcs _ (V.htlcs.keep (by (repeat (first | (with_reducible exact Below.refl _ _) | (with_reducible assumption) | (with_reducible refine Below.setCell ?_ ?side _; case side => first | (with_reducible exact Nat.le_refl _) | (simp; done) | (simp only [World.size_alloc, World.size_setCell, World.size_drew, World.heap_drewN] at *; omega)) | (with_reducible refine below_alloc ?_ _) | (with_reducible refine Below.drew ?_) | (with_reducible refine below_drewN ?_) | (with_reducible refine below_via (by assumption) ?_))))) (V'.htlcs.keep (by (repeat (first | (with_reducible exact Below.refl _ _) | (with_reducible assumption) | (with_reducible refine Below.setCell ?_ ?side _; case side => first | (with_reducible exact Nat.le_refl _) | (simp; done) | (simp only [World.size_alloc, World.size_setCell, World.size_drew, World.heap_drewN] at *; omega)) | (with_reducible refine below_alloc ?_ _) | (with_reducible refine Below.drew ?_) | (with_reducible refine below_drewN ?_) | (with_reducible refine below_via (by assumption) ?_)))))).mono ?_
  rintro e w2 ⟨rfl, hb⟩
  replace H0 := below_upd H0 hb (by (repeat (first | (with_reducible exact Below.refl _ _) | (with_reducible assumption) | (with_reducible refine Below.setCell ?_ ?side _; case side => first | (with_reducible exact Nat.le_refl _) | (simp; done) | (simp only [World.size_alloc, World.size_setCell, World.size_drew, World.heap_drewN] at *; omega)) | (with_reducible refine below_alloc ?_ _) | (with_reducible refine Below.drew ?_) | (with_reducible refine below_drewN ?_) | (with_reducible refine below_via (by assumption) ?_))))
  clear hc0 hf0 hs0 hz0
  obtain ⟨hc0, hf0, hs0, hz0⟩ := brules H0
  have B2 : Below w.heap.size w w2 := below_via hb (by (repeat (first | (with_reducible exact Below.refl _ _) | (with_reducible assumption) | (with_reducible refine Below.setCell ?_ ?side _; case side => first | (with_reducible exact Nat.le_refl _) | (simp; done) | (simp only [World.size_alloc, World.size_setCell, World.size_drew, World.heap_drewN] at *; omega)) | (with_reducible refine below_alloc ?_ _) | (with_reducible refine Below.drew ?_) | (with_reducible refine below_drewN ?_) | (with_reducible refine below_via (by assumption) ?_))))
  clear hb
  go_wp2_with fail
  refine (eqCircleS_v _ _ b.circles _ (V.circles.keep (by (repeat (first | (with_reducible exact Below.refl _ _) | (with_reducible assumption) | (with_reducible refine Below.setCell ?_ ?side _; case side => first | (with_reducible exact Nat.le_refl _) | (simp; done) | (simp only [World.size_alloc, World.size_setCell, World.size_drew, World.heap_drewN] at *; omega)) | (with_reducible refine below_alloc ?_ _) | (with_reducible refine Below.drew ?_) | (with_reducible refine below_drewN ?_) | (with_reducible refine below_via (by assumption) ?_))))) (V'.circles.keep (by (repeat (first | (with_reducible exact Below.refl _ _) | (with_reducible assumption) | (with_reducible refine Below.setCell ?_ ?side _; case side => first | (with_reducible exact Nat.le_refl _) | (simp; done) | (simp only [World.size_alloc, World.size_setCell, World.size_drew, World.heap_drewN] at *; omega)) | (with_reducible refine below_alloc ?_ _) | (with_reducible refine Below.drew ?_) | (with_reducible refine below_drewN ?_) | (with_reducible refine below_via (by assumption) ?_)))))).mono ?_
  rintro e w3 ⟨rfl, hb⟩
  replace H0 := below_upd H0 hb (by (repeat (first | (with_reducible exact Below.refl _ _) | (with_reducible assumption) | (with_reducible refine Below.setCell ?_ ?side _; case side => first | (with_reducible exact Nat.le_refl _) | (simp; done) | (simp only [World.size_alloc, World.size_setCell, World.size_drew, World.heap_drewN] at *; omega)) | (with_reducible refine below_alloc ?_ _) | (with_reducible refine Below.drew ?_) | (with_reducible refine below_drewN ?_) | (with_reducible refine below_via (by assumption) ?_))))
  clear hc0 hf0 hs0 hz0
  obtain ⟨hc0, hf0, hs0, hz0⟩ := brules H0
  have B3 : Below w.heap.size w w3 := below_via hb (by (repeat (first | (with_reducible exact Below.refl _ _) | (with_reducible assumption) | (with_reducible refine Below.setCell ?_ ?side _; case side => first | (with_reducible exact Nat.le_refl _) | (simp; done) | (simp only [World.size_alloc, World.size_setCell, World.size_drew, World.heap_drewN] at *; omega)) | (with_reducible refine below_alloc ?_ _) | (with_reducible refine Below.drew ?_) | (with_reducible refine below_drewN ?_) | (with_reducible refine below_via (by assumption) ?_))))
  clear hb
  go_wp2
  go_ret
  exact ⟨rfl, by (repeat (first | (with_reducible exact Below.refl _ _) | (with_reducible assumption) | (with_reducible refine Below.setCell ?_ ?side _; case side => first | (with_reducible exact Nat.le_refl _) | (simp; done) | (simp only [World.size_alloc, World.size_setCell, World.size_drew, World.heap_drewN] at *; omega)) | (with_reducible refine below_alloc ?_ _) | (with_reducible refine Below.drew ?_) | (with_reducible refine below_drewN ?_) | (with_reducible refine below_via (by assumption) ?_)))⟩

set_option maxRecDepth 100000 in
set_option maxHeartbeats 6400000 in
theorem eqLedger_any (v v' : Value) (l : Lg) (w : World) (V : LgV w w.heap.size v l) (V' : LgV w w.heap.size v' l) : Calls Tryz.prog 71 #[.agg #[.int .i64 l.last, v], .agg #[.int .i64 l.last, v']] w fun e w' => e = .returned (.bool true) ∧ Below w.heap.size w w' := by
  go_enter Tryz.func71, Tryz.ntmps71
  go_wp2_with fail
  refine (eqLineS_v _ _ l.lines _ (V.lines.keep (by (repeat (first | (with_reducible exact Below.refl _ _) | (with_reducible assumption) | (with_reducible refine Below.setCell ?_ ?side _; case side => first | (with_reducible exact Nat.le_refl _) | (simp; done) | (simp only [World.size_alloc, World.size_setCell, World.size_drew, World.heap_drewN] at *; omega)) | (with_reducible refine below_alloc ?_ _) | (with_reducible refine Below.drew ?_) | (with_reducible refine below_drewN ?_) | (with_reducible refine below_via (by assumption) ?_))))) (V'.lines.keep (by (repeat (first | (with_reducible exact Below.refl _ _) | (with_reducible assumption) | (with_reducible refine Below.setCell ?_ ?side _; case side => first | (with_reducible exact Nat.le_refl _) | (simp; done) | (simp only [World.size_alloc, World.size_setCell, World.size_drew, World.heap_drewN] at *; omega)) | (with_reducible refine below_alloc ?_ _) | (with_reducible refine Below.drew ?_) | (with_reducible refine below_drewN ?_) | (with_reducible refine below_via (by assumption) ?_)))))).mono ?_
  rintro e w1 ⟨rfl, hb⟩
  have H0 := hb
  obtain ⟨hc0, hf0, hs0, hz0⟩ := brules H0
  have B1 : Below w.heap.size w w1 := below_via hb (by (repeat (first | (with_reducible exact Below.refl _ _) | (with_reducible assumption) | (with_reducible refine Below.setCell ?_ ?side _; case side => first | (with_reducible exact Nat.le_refl _) | (simp; done) | (simp only [World.size_alloc, World.size_setCell, World.size_drew, World.heap_drewN] at *; omega)) | (with_reducible refine below_alloc ?_ _) | (with_reducible refine Below.drew ?_) | (with_reducible refine below_drewN ?_) | (with_reducible refine below_via (by assumption) ?_))))
  clear hb
  go_wp2
  go_ret
  exact ⟨rfl, by (repeat (first | (with_reducible exact Below.refl _ _) | (with_reducible assumption) | (with_reducible refine Below.setCell ?_ ?side _; case side => first | (with_reducible exact Nat.le_refl _) | (simp; done) | (simp only [World.size_alloc, World.size_setCell, World.size_drew, World.heap_drewN] at *; omega)) | (with_reducible refine below_alloc ?_ _) | (with_reducible refine Below.drew ?_) | (with_reducible refine below_drewN ?_) | (with_reducible refine below_via (by assumption) ?_)))⟩

set_option maxRecDepth 100000 in
set_option maxHeartbeats 6400000 in
theorem eqHub_any (c d x y z l p q c' d' x' y' z' l' p' q' : Value) (h : Hb) (w : World) (V : HbV w w.heap.size c d x y z l p q h) (V' : HbV w w.heap.size c' d' x' y' z' l' p' q' h) : Calls Tryz.prog 31 #[.agg #[c, d, .int .i64 h.log.next, .int .i64 h.log.epoch, .int .i64 h.book.tick, .int .i64 h.book.next, .int .i64 h.book.wallet, x, y, z, .int .i64 h.ledger.last, l, p, q], .agg #[c', d', .int .i64 h.log.next, .int .i64 h.log.epoch, .int .i64 h.book.tick, .int .i64 h.book.next, .int .i64 h.book.wallet, x', y', z', .int .i64 h.ledger.last, l', p', q']] w fun e w' => e = .returned (.bool true) ∧ Below w.heap.size w w' := by
  go_enter Tryz.func31, Tryz.ntmps31
  go_wp2_with fail
  refine (eqLog_any _ _ _ _ h.log _ (V.log.keep (by (repeat (first | (with_reducible exact Below.refl _ _) | (with_reducible assumption) | (with_reducible refine Below.setCell ?_ ?side _; case side => first | (with_reducible exact Nat.le_refl _) | (simp; done) | (simp only [World.size_alloc, World.size_setCell, World.size_drew, World.heap_drewN] at *; omega)) | (with_reducible refine below_alloc ?_ _) | (with_reducible refine Below.drew ?_) | (with_reducible refine below_drewN ?_) | (with_reducible refine below_via (by assumption) ?_))))) (V'.log.keep (by (repeat (first | (with_reducible exact Below.refl _ _) | (with_reducible assumption) | (with_reducible refine Below.setCell ?_ ?side _; case side => first | (with_reducible exact Nat.le_refl _) | (simp; done) | (simp only [World.size_alloc, World.size_setCell, World.size_drew, World.heap_drewN] at *; omega)) | (with_reducible refine below_alloc ?_ _) | (with_reducible refine Below.drew ?_) | (with_reducible refine below_drewN ?_) | (with_reducible refine below_via (by assumption) ?_)))))).mono ?_
  rintro e w1 ⟨rfl, hb⟩
  have H0 := hb
  obtain ⟨hc0, hf0, hs0, hz0⟩ := brules H0
  have B1 : Below w.heap.size w w1 := below_via hb (by (repeat (first | (with_reducible exact Below.refl _ _) | (with_reducible assumption) | (with_reducible refine Below.setCell ?_ ?side _; case side => first | (with_reducible exact Nat.le_refl _) | (simp; done) | (simp only [World.size_alloc, World.size_setCell, World.size_drew, World.heap_drewN] at *; omega)) | (with_reducible refine below_alloc ?_ _) | (with_reducible refine Below.drew ?_) | (with_reducible refine below_drewN ?_) | (with_reducible refine below_via (by assumption) ?_))))
  clear hb
  go_wp2_with fail
  refine (eqBook_any _ _ _ _ _ _ h.book _ (V.book.keep (by (repeat (first | (with_reducible exact Below.refl _ _) | (with_reducible assumption) | (with_reducible refine Below.setCell ?_ ?side _; case side => first | (with_reducible exact Nat.le_refl _) | (simp; done) | (simp only [World.size_alloc, World.size_setCell, World.size_drew, World.heap_drewN] at *; omega)) | (with_reducible refine below_alloc ?_ _) | (with_reducible refine Below.drew ?_) | (with_reducible refine below_drewN ?_) | (with_reducible refine below_via (by assumption) ?_))))) (V'.book.keep (by (repeat (first | (with_reducible exact Below.refl _ _) | (with_reducible assumption) | (with_reducible refine Below.setCell ?_ ?side _; case side => first | (with_reducible exact Nat.le_refl _) | (simp; done) | (simp only [World.size_alloc, World.size_setCell, World.size_drew, World.heap_drewN] at *; omega)) | (with_reducible refine below_alloc ?_ _) | (with_reducible refine Below.drew ?_) | (with_reducible refine below_drewN ?_) | (with_reducible refine below_via (by assumption) ?_)))))).mono ?_
  rintro e w2 ⟨rfl, hb⟩
  replace H0 := below_upd H0 hb (by (repeat (first | (with_reducible exact Below.refl _ _) | (with_reducible assumption) | (with_reducible refine Below.setCell ?_ ?side _; case side => first | (with_reducible exact Nat.le_refl _) | (simp; done) | (simp only [World.size_alloc, World.size_setCell, World.size_drew, World.heap_drewN] at *; omega)) | (with_reducible refine below_alloc ?_ _) | (with_reducible refine Below.drew ?_) | (with_reducible refine below_drewN ?_) | (with_reducible refine below_via (by assumption) ?_))))
  clear hc0 hf0 hs0 hz0
  obtain ⟨hc0, hf0, hs0, hz0⟩ := brules H0
  have B2 : Below w.heap.size w w2 := below_via hb (by (repeat (first | (with_reducible exact Below.refl _ _) | (with_reducible assumption) | (with_reducible refine Below.setCell ?_ ?side _; case side => first | (with_reducible exact Nat.le_refl _) | (simp; done) | (simp only [World.size_alloc, World.size_setCell, World.size_drew, World.heap_drewN] at *; omega)) | (with_reducible refine below_alloc ?_ _) | (with_reducible refine Below.drew ?_) | (with_reducible refine below_drewN ?_) | (with_reducible refine below_via (by assumption) ?_))))
  clear hb
  go_wp2_with fail
  refine (eqLedger_any _ _ h.ledger _ (V.ledger.keep (by (repeat (first | (with_reducible exact Below.refl _ _) | (with_reducible assumption) | (with_reducible refine Below.setCell ?_ ?side _; case side => first | (with_reducible exact Nat.le_refl _) | (simp; done) | (simp only [World.size_alloc, World.size_setCell, World.size_drew, World.heap_drewN] at *; omega)) | (with_reducible refine below_alloc ?_ _) | (with_reducible refine Below.drew ?_) | (with_reducible refine below_drewN ?_) | (with_reducible refine below_via (by assumption) ?_))))) (V'.ledger.keep (by (repeat (first | (with_reducible exact Below.refl _ _) | (with_reducible assumption) | (with_reducible refine Below.setCell ?_ ?side _; case side => first | (with_reducible exact Nat.le_refl _) | (simp; done) | (simp only [World.size_alloc, World.size_setCell, World.size_drew, World.heap_drewN] at *; omega)) | (with_reducible refine below_alloc ?_ _) | (with_reducible refine Below.drew ?_) | (with_reducible refine below_drewN ?_) | (with_reducible refine below_via (by assumption) ?_)))))).mono ?_
  rintro e w3 ⟨rfl, hb⟩
  replace H0 := below_upd H0 hb (by (repeat (first | (with_reducible exact Below.refl _ _) | (with_reducible assumption) | (with_reducible refine Below.setCell ?_ ?side _; case side => first | (with_reducible exact Nat.le_refl _) | (simp; done) | (simp only [World.size_alloc, World.size_setCell, World.size_drew, World.heap_drewN] at *; omega)) | (with_reducible refine below_alloc ?_ _) | (with_reducible refine Below.drew ?_) | (with_reducible refine below_drewN ?_) | (with_reducible refine below_via (by assumption) ?_))))
  clear hc0 hf0 hs0 hz0
  obtain ⟨hc0, hf0, hs0, hz0⟩ := brules H0
  have B3 : Below w.heap.size w w3 := below_via hb (by (repeat (first | (with_reducible exact Below.refl _ _) | (with_reducible assumption) | (with_reducible refine Below.setCell ?_ ?side _; case side => first | (with_reducible exact Nat.le_refl _) | (simp; done) | (simp only [World.size_alloc, World.size_setCell, World.size_drew, World.heap_drewN] at *; omega)) | (with_reducible refine below_alloc ?_ _) | (with_reducible refine Below.drew ?_) | (with_reducible refine below_drewN ?_) | (with_reducible refine below_via (by assumption) ?_))))
  clear hb
  go_wp2_with fail
  refine (eqEventS_v _ _ h.wait _ (V.wait.keep (by (repeat (first | (with_reducible exact Below.refl _ _) | (with_reducible assumption) | (with_reducible refine Below.setCell ?_ ?side _; case side => first | (with_reducible exact Nat.le_refl _) | (simp; done) | (simp only [World.size_alloc, World.size_setCell, World.size_drew, World.heap_drewN] at *; omega)) | (with_reducible refine below_alloc ?_ _) | (with_reducible refine Below.drew ?_) | (with_reducible refine below_drewN ?_) | (with_reducible refine below_via (by assumption) ?_))))) (V'.wait.keep (by (repeat (first | (with_reducible exact Below.refl _ _) | (with_reducible assumption) | (with_reducible refine Below.setCell ?_ ?side _; case side => first | (with_reducible exact Nat.le_refl _) | (simp; done) | (simp only [World.size_alloc, World.size_setCell, World.size_drew, World.heap_drewN] at *; omega)) | (with_reducible refine below_alloc ?_ _) | (with_reducible refine Below.drew ?_) | (with_reducible refine below_drewN ?_) | (with_reducible refine below_via (by assumption) ?_)))))).mono ?_
  rintro e w4 ⟨rfl, hb⟩
  replace H0 := below_upd H0 hb (by (repeat (first | (with_reducible exact Below.refl _ _) | (with_reducible assumption) | (with_reducible refine Below.setCell ?_ ?side _; case side => first | (with_reducible exact Nat.le_refl _) | (simp; done) | (simp only [World.size_alloc, World.size_setCell, World.size_drew, World.heap_drewN] at *; omega)) | (with_reducible refine below_alloc ?_ _) | (with_reducible refine Below.drew ?_) | (with_reducible refine below_drewN ?_) | (with_reducible refine below_via (by assumption) ?_))))
  clear hc0 hf0 hs0 hz0
  obtain ⟨hc0, hf0, hs0, hz0⟩ := brules H0
  have B4 : Below w.heap.size w w4 := below_via hb (by (repeat (first | (with_reducible exact Below.refl _ _) | (with_reducible assumption) | (with_reducible refine Below.setCell ?_ ?side _; case side => first | (with_reducible exact Nat.le_refl _) | (simp; done) | (simp only [World.size_alloc, World.size_setCell, World.size_drew, World.heap_drewN] at *; omega)) | (with_reducible refine below_alloc ?_ _) | (with_reducible refine Below.drew ?_) | (with_reducible refine below_drewN ?_) | (with_reducible refine below_via (by assumption) ?_))))
  clear hb
  go_wp2_with fail
  refine (eqEventS_v _ _ h.sent _ (V.sent.keep (by (repeat (first | (with_reducible exact Below.refl _ _) | (with_reducible assumption) | (with_reducible refine Below.setCell ?_ ?side _; case side => first | (with_reducible exact Nat.le_refl _) | (simp; done) | (simp only [World.size_alloc, World.size_setCell, World.size_drew, World.heap_drewN] at *; omega)) | (with_reducible refine below_alloc ?_ _) | (with_reducible refine Below.drew ?_) | (with_reducible refine below_drewN ?_) | (with_reducible refine below_via (by assumption) ?_))))) (V'.sent.keep (by (repeat (first | (with_reducible exact Below.refl _ _) | (with_reducible assumption) | (with_reducible refine Below.setCell ?_ ?side _; case side => first | (with_reducible exact Nat.le_refl _) | (simp; done) | (simp only [World.size_alloc, World.size_setCell, World.size_drew, World.heap_drewN] at *; omega)) | (with_reducible refine below_alloc ?_ _) | (with_reducible refine Below.drew ?_) | (with_reducible refine below_drewN ?_) | (with_reducible refine below_via (by assumption) ?_)))))).mono ?_
  rintro e w5 ⟨rfl, hb⟩
  replace H0 := below_upd H0 hb (by (repeat (first | (with_reducible exact Below.refl _ _) | (with_reducible assumption) | (with_reducible refine Below.setCell ?_ ?side _; case side => first | (with_reducible exact Nat.le_refl _) | (simp; done) | (simp only [World.size_alloc, World.size_setCell, World.size_drew, World.heap_drewN] at *; omega)) | (with_reducible refine below_alloc ?_ _) | (with_reducible refine Below.drew ?_) | (with_reducible refine below_drewN ?_) | (with_reducible refine below_via (by assumption) ?_))))
  clear hc0 hf0 hs0 hz0
  obtain ⟨hc0, hf0, hs0, hz0⟩ := brules H0
  have B5 : Below w.heap.size w w5 := below_via hb (by (repeat (first | (with_reducible exact Below.refl _ _) | (with_reducible assumption) | (with_reducible refine Below.setCell ?_ ?side _; case side => first | (with_reducible exact Nat.le_refl _) | (simp; done) | (simp only [World.size_alloc, World.size_setCell, World.size_drew, World.heap_drewN] at *; omega)) | (with_reducible refine below_alloc ?_ _) | (with_reducible refine Below.drew ?_) | (with_reducible refine below_drewN ?_) | (with_reducible refine below_via (by assumption) ?_))))
  clear hb
  go_wp2
  go_ret
  exact ⟨rfl, by (repeat (first | (with_reducible exact Below.refl _ _) | (with_reducible assumption) | (with_reducible refine Below.setCell ?_ ?side _; case side => first | (with_reducible exact Nat.le_refl _) | (simp; done) | (simp only [World.size_alloc, World.size_setCell, World.size_drew, World.heap_drewN] at *; omega)) | (with_reducible refine below_alloc ?_ _) | (with_reducible refine Below.drew ?_) | (with_reducible refine below_drewN ?_) | (with_reducible refine below_via (by assumption) ?_)))⟩

set_option maxRecDepth 100000 in
set_option maxHeartbeats 6400000 in
theorem eqWorld_any (c d x y z l p q c2 d2 t s k c' d' x' y' z' l' p' q' c2' d2' t' s' k' : Value) (W : Wd) (w : World) (V : WdV w w.heap.size c d x y z l p q c2 d2 t s k W) (V' : WdV w w.heap.size c' d' x' y' z' l' p' q' c2' d2' t' s' k' W) : Calls Tryz.prog 10 #[.agg #[.bool W.up, c, d, .int .i64 W.hub.log.next, .int .i64 W.hub.log.epoch, .int .i64 W.hub.book.tick, .int .i64 W.hub.book.next, .int .i64 W.hub.book.wallet, x, y, z, .int .i64 W.hub.ledger.last, l, p, q, c2, d2, t, s, k], .agg #[.bool W.up, c', d', .int .i64 W.hub.log.next, .int .i64 W.hub.log.epoch, .int .i64 W.hub.book.tick, .int .i64 W.hub.book.next, .int .i64 W.hub.book.wallet, x', y', z', .int .i64 W.hub.ledger.last, l', p', q', c2', d2', t', s', k']] w fun e w' => e = .returned (.bool true) ∧ Below w.heap.size w w' := by
  go_enter Tryz.func10, Tryz.ntmps10
  go_wp2_with fail
  refine (eqHub_any _ _ _ _ _ _ _ _ _ _ _ _ _ _ _ _ W.hub _ (V.hub.keep (by (repeat (first | (with_reducible exact Below.refl _ _) | (with_reducible assumption) | (with_reducible refine Below.setCell ?_ ?side _; case side => first | (with_reducible exact Nat.le_refl _) | (simp; done) | (simp only [World.size_alloc, World.size_setCell, World.size_drew, World.heap_drewN] at *; omega)) | (with_reducible refine below_alloc ?_ _) | (with_reducible refine Below.drew ?_) | (with_reducible refine below_drewN ?_) | (with_reducible refine below_via (by assumption) ?_))))) (V'.hub.keep (by (repeat (first | (with_reducible exact Below.refl _ _) | (with_reducible assumption) | (with_reducible refine Below.setCell ?_ ?side _; case side => first | (with_reducible exact Nat.le_refl _) | (simp; done) | (simp only [World.size_alloc, World.size_setCell, World.size_drew, World.heap_drewN] at *; omega)) | (with_reducible refine below_alloc ?_ _) | (with_reducible refine Below.drew ?_) | (with_reducible refine below_drewN ?_) | (with_reducible refine below_via (by assumption) ?_)))))).mono ?_
  rintro e w1 ⟨rfl, hb⟩
  have H0 := hb
  obtain ⟨hc0, hf0, hs0, hz0⟩ := brules H0
  have B1 : Below w.heap.size w w1 := below_via hb (by (repeat (first | (with_reducible exact Below.refl _ _) | (with_reducible assumption) | (with_reducible refine Below.setCell ?_ ?side _; case side => first | (with_reducible exact Nat.le_refl _) | (simp; done) | (simp only [World.size_alloc, World.size_setCell, World.size_drew, World.heap_drewN] at *; omega)) | (with_reducible refine below_alloc ?_ _) | (with_reducible refine Below.drew ?_) | (with_reducible refine below_drewN ?_) | (with_reducible refine below_via (by assumption) ?_))))
  clear hb
  go_wp2_with fail
  refine (eqDisk_any _ _ _ _ W.disk _ (V.disk.keep (by (repeat (first | (with_reducible exact Below.refl _ _) | (with_reducible assumption) | (with_reducible refine Below.setCell ?_ ?side _; case side => first | (with_reducible exact Nat.le_refl _) | (simp; done) | (simp only [World.size_alloc, World.size_setCell, World.size_drew, World.heap_drewN] at *; omega)) | (with_reducible refine below_alloc ?_ _) | (with_reducible refine Below.drew ?_) | (with_reducible refine below_drewN ?_) | (with_reducible refine below_via (by assumption) ?_))))) (V'.disk.keep (by (repeat (first | (with_reducible exact Below.refl _ _) | (with_reducible assumption) | (with_reducible refine Below.setCell ?_ ?side _; case side => first | (with_reducible exact Nat.le_refl _) | (simp; done) | (simp only [World.size_alloc, World.size_setCell, World.size_drew, World.heap_drewN] at *; omega)) | (with_reducible refine below_alloc ?_ _) | (with_reducible refine Below.drew ?_) | (with_reducible refine below_drewN ?_) | (with_reducible refine below_via (by assumption) ?_)))))).mono ?_
  rintro e w2 ⟨rfl, hb⟩
  replace H0 := below_upd H0 hb (by (repeat (first | (with_reducible exact Below.refl _ _) | (with_reducible assumption) | (with_reducible refine Below.setCell ?_ ?side _; case side => first | (with_reducible exact Nat.le_refl _) | (simp; done) | (simp only [World.size_alloc, World.size_setCell, World.size_drew, World.heap_drewN] at *; omega)) | (with_reducible refine below_alloc ?_ _) | (with_reducible refine Below.drew ?_) | (with_reducible refine below_drewN ?_) | (with_reducible refine below_via (by assumption) ?_))))
  clear hc0 hf0 hs0 hz0
  obtain ⟨hc0, hf0, hs0, hz0⟩ := brules H0
  have B2 : Below w.heap.size w w2 := below_via hb (by (repeat (first | (with_reducible exact Below.refl _ _) | (with_reducible assumption) | (with_reducible refine Below.setCell ?_ ?side _; case side => first | (with_reducible exact Nat.le_refl _) | (simp; done) | (simp only [World.size_alloc, World.size_setCell, World.size_drew, World.heap_drewN] at *; omega)) | (with_reducible refine below_alloc ?_ _) | (with_reducible refine Below.drew ?_) | (with_reducible refine below_drewN ?_) | (with_reducible refine below_via (by assumption) ?_))))
  clear hb
  go_wp2_with fail
  refine (eqEventS_v _ _ W.took _ (V.took.keep (by (repeat (first | (with_reducible exact Below.refl _ _) | (with_reducible assumption) | (with_reducible refine Below.setCell ?_ ?side _; case side => first | (with_reducible exact Nat.le_refl _) | (simp; done) | (simp only [World.size_alloc, World.size_setCell, World.size_drew, World.heap_drewN] at *; omega)) | (with_reducible refine below_alloc ?_ _) | (with_reducible refine Below.drew ?_) | (with_reducible refine below_drewN ?_) | (with_reducible refine below_via (by assumption) ?_))))) (V'.took.keep (by (repeat (first | (with_reducible exact Below.refl _ _) | (with_reducible assumption) | (with_reducible refine Below.setCell ?_ ?side _; case side => first | (with_reducible exact Nat.le_refl _) | (simp; done) | (simp only [World.size_alloc, World.size_setCell, World.size_drew, World.heap_drewN] at *; omega)) | (with_reducible refine below_alloc ?_ _) | (with_reducible refine Below.drew ?_) | (with_reducible refine below_drewN ?_) | (with_reducible refine below_via (by assumption) ?_)))))).mono ?_
  rintro e w3 ⟨rfl, hb⟩
  replace H0 := below_upd H0 hb (by (repeat (first | (with_reducible exact Below.refl _ _) | (with_reducible assumption) | (with_reducible refine Below.setCell ?_ ?side _; case side => first | (with_reducible exact Nat.le_refl _) | (simp; done) | (simp only [World.size_alloc, World.size_setCell, World.size_drew, World.heap_drewN] at *; omega)) | (with_reducible refine below_alloc ?_ _) | (with_reducible refine Below.drew ?_) | (with_reducible refine below_drewN ?_) | (with_reducible refine below_via (by assumption) ?_))))
  clear hc0 hf0 hs0 hz0
  obtain ⟨hc0, hf0, hs0, hz0⟩ := brules H0
  have B3 : Below w.heap.size w w3 := below_via hb (by (repeat (first | (with_reducible exact Below.refl _ _) | (with_reducible assumption) | (with_reducible refine Below.setCell ?_ ?side _; case side => first | (with_reducible exact Nat.le_refl _) | (simp; done) | (simp only [World.size_alloc, World.size_setCell, World.size_drew, World.heap_drewN] at *; omega)) | (with_reducible refine below_alloc ?_ _) | (with_reducible refine Below.drew ?_) | (with_reducible refine below_drewN ?_) | (with_reducible refine below_via (by assumption) ?_))))
  clear hb
  go_wp2_with fail
  refine (eqEventS_v _ _ W.sent _ (V.sent.keep (by (repeat (first | (with_reducible exact Below.refl _ _) | (with_reducible assumption) | (with_reducible refine Below.setCell ?_ ?side _; case side => first | (with_reducible exact Nat.le_refl _) | (simp; done) | (simp only [World.size_alloc, World.size_setCell, World.size_drew, World.heap_drewN] at *; omega)) | (with_reducible refine below_alloc ?_ _) | (with_reducible refine Below.drew ?_) | (with_reducible refine below_drewN ?_) | (with_reducible refine below_via (by assumption) ?_))))) (V'.sent.keep (by (repeat (first | (with_reducible exact Below.refl _ _) | (with_reducible assumption) | (with_reducible refine Below.setCell ?_ ?side _; case side => first | (with_reducible exact Nat.le_refl _) | (simp; done) | (simp only [World.size_alloc, World.size_setCell, World.size_drew, World.heap_drewN] at *; omega)) | (with_reducible refine below_alloc ?_ _) | (with_reducible refine Below.drew ?_) | (with_reducible refine below_drewN ?_) | (with_reducible refine below_via (by assumption) ?_)))))).mono ?_
  rintro e w4 ⟨rfl, hb⟩
  replace H0 := below_upd H0 hb (by (repeat (first | (with_reducible exact Below.refl _ _) | (with_reducible assumption) | (with_reducible refine Below.setCell ?_ ?side _; case side => first | (with_reducible exact Nat.le_refl _) | (simp; done) | (simp only [World.size_alloc, World.size_setCell, World.size_drew, World.heap_drewN] at *; omega)) | (with_reducible refine below_alloc ?_ _) | (with_reducible refine Below.drew ?_) | (with_reducible refine below_drewN ?_) | (with_reducible refine below_via (by assumption) ?_))))
  clear hc0 hf0 hs0 hz0
  obtain ⟨hc0, hf0, hs0, hz0⟩ := brules H0
  have B4 : Below w.heap.size w w4 := below_via hb (by (repeat (first | (with_reducible exact Below.refl _ _) | (with_reducible assumption) | (with_reducible refine Below.setCell ?_ ?side _; case side => first | (with_reducible exact Nat.le_refl _) | (simp; done) | (simp only [World.size_alloc, World.size_setCell, World.size_drew, World.heap_drewN] at *; omega)) | (with_reducible refine below_alloc ?_ _) | (with_reducible refine Below.drew ?_) | (with_reducible refine below_drewN ?_) | (with_reducible refine below_via (by assumption) ?_))))
  clear hb
  go_wp2_with fail
  refine (eqIntS_v _ _ W.codes _ (V.codes.keep (by (repeat (first | (with_reducible exact Below.refl _ _) | (with_reducible assumption) | (with_reducible refine Below.setCell ?_ ?side _; case side => first | (with_reducible exact Nat.le_refl _) | (simp; done) | (simp only [World.size_alloc, World.size_setCell, World.size_drew, World.heap_drewN] at *; omega)) | (with_reducible refine below_alloc ?_ _) | (with_reducible refine Below.drew ?_) | (with_reducible refine below_drewN ?_) | (with_reducible refine below_via (by assumption) ?_))))) (V'.codes.keep (by (repeat (first | (with_reducible exact Below.refl _ _) | (with_reducible assumption) | (with_reducible refine Below.setCell ?_ ?side _; case side => first | (with_reducible exact Nat.le_refl _) | (simp; done) | (simp only [World.size_alloc, World.size_setCell, World.size_drew, World.heap_drewN] at *; omega)) | (with_reducible refine below_alloc ?_ _) | (with_reducible refine Below.drew ?_) | (with_reducible refine below_drewN ?_) | (with_reducible refine below_via (by assumption) ?_)))))).mono ?_
  rintro e w5 ⟨rfl, hb⟩
  replace H0 := below_upd H0 hb (by (repeat (first | (with_reducible exact Below.refl _ _) | (with_reducible assumption) | (with_reducible refine Below.setCell ?_ ?side _; case side => first | (with_reducible exact Nat.le_refl _) | (simp; done) | (simp only [World.size_alloc, World.size_setCell, World.size_drew, World.heap_drewN] at *; omega)) | (with_reducible refine below_alloc ?_ _) | (with_reducible refine Below.drew ?_) | (with_reducible refine below_drewN ?_) | (with_reducible refine below_via (by assumption) ?_))))
  clear hc0 hf0 hs0 hz0
  obtain ⟨hc0, hf0, hs0, hz0⟩ := brules H0
  have B5 : Below w.heap.size w w5 := below_via hb (by (repeat (first | (with_reducible exact Below.refl _ _) | (with_reducible assumption) | (with_reducible refine Below.setCell ?_ ?side _; case side => first | (with_reducible exact Nat.le_refl _) | (simp; done) | (simp only [World.size_alloc, World.size_setCell, World.size_drew, World.heap_drewN] at *; omega)) | (with_reducible refine below_alloc ?_ _) | (with_reducible refine Below.drew ?_) | (with_reducible refine below_drewN ?_) | (with_reducible refine below_via (by assumption) ?_))))
  clear hb
  go_wp2
  go_ret
  exact ⟨rfl, by (repeat (first | (with_reducible exact Below.refl _ _) | (with_reducible assumption) | (with_reducible refine Below.setCell ?_ ?side _; case side => first | (with_reducible exact Nat.le_refl _) | (simp; done) | (simp only [World.size_alloc, World.size_setCell, World.size_drew, World.heap_drewN] at *; omega)) | (with_reducible refine below_alloc ?_ _) | (with_reducible refine Below.drew ?_) | (with_reducible refine below_drewN ?_) | (with_reducible refine below_via (by assumption) ?_)))⟩

theorem infDisk : (Tryz.prog.info? 47).map (·.size) = some 2 := by kernel_rfl

theorem infLog : (Tryz.prog.info? 49).map (·.size) = some 4 := by kernel_rfl

theorem infBook : (Tryz.prog.info? 54).map (·.size) = some 6 := by kernel_rfl

theorem infLedger : (Tryz.prog.info? 57).map (·.size) = some 2 := by kernel_rfl

theorem infHub : (Tryz.prog.info? 60).map (·.size) = some 14 := by kernel_rfl

theorem infWorld : (Tryz.prog.info? 62).map (·.size) = some 20 := by kernel_rfl

theorem unDisk : ∃ fs, Tryz.prog.underlying 47 = some (.struct fs) := ⟨_, Tryz.underlying47⟩

theorem unLog : ∃ fs, Tryz.prog.underlying 49 = some (.struct fs) := ⟨_, Tryz.underlying49⟩

theorem unBook : ∃ fs, Tryz.prog.underlying 54 = some (.struct fs) := ⟨_, Tryz.underlying54⟩

theorem unLedger : ∃ fs, Tryz.prog.underlying 57 = some (.struct fs) := ⟨_, Tryz.underlying57⟩

theorem unHub : ∃ fs, Tryz.prog.underlying 60 = some (.struct fs) := ⟨_, Tryz.underlying60⟩

theorem unWorld : ∃ fs, Tryz.prog.underlying 62 = some (.struct fs) := ⟨_, Tryz.underlying62⟩

theorem infLDisk : (Tryz.prog.info? 25).map (·.size) = some 2 := by kernel_rfl

theorem infLLog : (Tryz.prog.info? 27).map (·.size) = some 4 := by kernel_rfl

theorem infLBook : (Tryz.prog.info? 32).map (·.size) = some 6 := by kernel_rfl

theorem infLLedger : (Tryz.prog.info? 35).map (·.size) = some 2 := by kernel_rfl

theorem infLHub : (Tryz.prog.info? 38).map (·.size) = some 14 := by kernel_rfl

theorem infLWorld : (Tryz.prog.info? 41).map (·.size) = some 20 := by kernel_rfl

theorem unLWorld : ∃ fs, Tryz.prog.underlying 41 = some (.struct fs) := ⟨_, Tryz.underlying41⟩

theorem unLDisk : ∃ fs, Tryz.prog.underlying 25 = some (.struct fs) := ⟨_, Tryz.underlying25⟩

theorem unLLog : ∃ fs, Tryz.prog.underlying 27 = some (.struct fs) := ⟨_, Tryz.underlying27⟩

theorem unLBook : ∃ fs, Tryz.prog.underlying 32 = some (.struct fs) := ⟨_, Tryz.underlying32⟩

theorem unLLedger : ∃ fs, Tryz.prog.underlying 35 = some (.struct fs) := ⟨_, Tryz.underlying35⟩

theorem unLHub : ∃ fs, Tryz.prog.underlying 38 = some (.struct fs) := ⟨_, Tryz.underlying38⟩

/-- a row of the call's own whose elements hold rows of the call's own; F: the blocks of all of them -/
def RnO {α β : Type} (K : Kd α β) (F : List Nat) (w : World) (B : Nat) (v : Value) (xs : List α) : Prop := ∃ vs, ON K w B v xs vs ∧ F = blks (v :: vs)
section
variable {α β : Type} {K : Kd α β} {F G : List Nat} {w w' : World} {B B' : Nat} {v : Value} {xs : List α}
theorem RnO.lt (h : RnO K F w B v xs) : ∀ k ∈ F, B ≤ k ∧ k < w.heap.size := by
  obtain ⟨vs, h, rfl⟩ := h
  exact h.lt
theorem RnO.nd (h : RnO K F w B v xs) : F.Nodup := by
  obtain ⟨vs, h, rfl⟩ := h
  exact h.nd
theorem RnO.kept (h : RnO K F w B v xs) (hx : Ex G w w') (hn : ∀ k ∈ F, k ∉ G) : RnO K F w' B v xs := by
  obtain ⟨vs, h, rfl⟩ := h
  exact ⟨vs, h.kept hx hn, rfl⟩
theorem RnO.keep (h : RnO K F w B v xs) (hb : Below w.heap.size w w') : RnO K F w' B v xs := h.kept (Ex.of_below hb []) (fun k _ => by simp)
theorem RnO.le (h : RnO K F w B v xs) (hB : B' ≤ B) : RnO K F w B' v xs := by
  obtain ⟨vs, h, rfl⟩ := h
  exact ⟨vs, h.le hB, rfl⟩
theorem RnO.form (h : RnO K F w B v xs) : ∃ a n c, v = .slice a n c := by
  obtain ⟨vs, h, rfl⟩ := h
  obtain ⟨a, c, e, _⟩ := h.form
  exact ⟨a, _, c, e⟩
theorem RnO.vn (h : RnO K F w B v xs) : VN K w w.heap.size v xs := by
  obtain ⟨vs, h, rfl⟩ := h
  exact h.vn
end
section
variable {α : Type} {enc : α → List Value} {sz : Nat} {ok : α → Prop} {E : TypeId} {F : List Nat} {w : World} {B : Nat} {v : Value} {xs : List α}
theorem RwO.form (h : RwO enc sz ok E F w B v xs) : ∃ a n c, v = .slice a n c := by
  rcases h.own.2 with ⟨h1, _⟩ | ⟨g, c, cur, h1, _⟩
  · exact ⟨_, _, _, h1⟩
  · exact ⟨_, _, _, h1⟩
end
theorem DkO.of {F0 F1 : List Nat} {w : World} {B : Nat} {v0 v1 : Value} {d : Dk} (h0 : RnO CellK F0 w B v0 d.cells) (h1 : RnO WrK F1 w B v1 d.dirty) (hn : (F0 ++ F1).Nodup) : DkO (F0 ++ F1) w B v0 v1 d := by
  obtain ⟨us, h0, rfl⟩ := h0
  obtain ⟨vs, h1, rfl⟩ := h1
  exact ⟨us, vs, h0, h1, rfl, hn⟩
theorem DkO.form {F : List Nat} {w : World} {B : Nat} {v0 v1 : Value} {d : Dk} (h : DkO F w B v0 v1 d) : (∃ a n c, v0 = .slice a n c) ∧ ∃ a n c, v1 = .slice a n c := by
  obtain ⟨us, vs, h0, h1, _⟩ := h
  exact ⟨RnO.form ⟨us, h0, rfl⟩, RnO.form ⟨vs, h1, rfl⟩⟩
theorem LgO.form {F : List Nat} {w : World} {B : Nat} {v : Value} {m : Lg} (h : LgO F w B v m) : ∃ a n c, v = .slice a n c := by
  obtain ⟨F0, h0, _⟩ := h
  exact h0.form
theorem LoO.form {F : List Nat} {w : World} {B : Nat} {c d : Value} {m : Lo} (h : LoO F w B c d m) : (∃ a n k, c = .slice a n k) ∧ ∃ a n k, d = .slice a n k := by
  obtain ⟨F0, h0, _⟩ := h
  exact h0.form
theorem BkO.form {F : List Nat} {w : World} {B : Nat} {x y z : Value} {m : Bk} (h : BkO F w B x y z m) : (∃ a n k, x = .slice a n k) ∧ (∃ a n k, y = .slice a n k) ∧ ∃ a n k, z = .slice a n k := by
  obtain ⟨F0, F1, F2, ⟨h0, h1, h2⟩, _⟩ := h
  exact ⟨h0.form, h1.form, h2.form⟩
theorem HbO.form {F : List Nat} {w : World} {B : Nat} {c d x y z l p q : Value} {m : Hb} (h : HbO F w B c d x y z l p q m) : ((∃ a n k, c = .slice a n k) ∧ ∃ a n k, d = .slice a n k) ∧ ((∃ a n k, x = .slice a n k) ∧ (∃ a n k, y = .slice a n k) ∧ ∃ a n k, z = .slice a n k) ∧ (∃ a n k, l = .slice a n k) ∧ (∃ a n k, p = .slice a n k) ∧ ∃ a n k, q = .slice a n k := by
  obtain ⟨F0, F1, F2, F3, F4, ⟨h0, h1, h2, h3, h4⟩, _⟩ := h
  exact ⟨h0.form, h1.form, h2.form, h3.form, h4.form⟩
theorem toCellS_o (v : Value) (xs : List (List UInt8)) (w : World) (V0 : VN CellK w w.heap.size v xs) (hlen : xs.length ≤ 1048576) (hbd : ∀ x ∈ xs, (id x).length ≤ 1048576) : Calls Tryz.prog 63 #[v] w fun e w' => (∃ F u, e = .returned u ∧ RnO CellK F w' w.heap.size u xs) ∧ Below w.heap.size w w' := by
  refine (toCellS_any v xs w V0 hlen hbd).mono ?_
  rintro e w' ⟨⟨u, us, rfl, h⟩, hb⟩
  exact ⟨⟨_, u, rfl, us, h, rfl⟩, hb⟩
theorem toWriteS_o (v : Value) (xs : List Wr) (w : World) (V0 : VN WrK w w.heap.size v xs) (hlen : xs.length ≤ 1048576) (hbd : ∀ x ∈ xs, (x.bytes).length ≤ 1048576) : Calls Tryz.prog 64 #[v] w fun e w' => (∃ F u, e = .returned u ∧ RnO WrK F w' w.heap.size u xs) ∧ Below w.heap.size w w' := by
  refine (toWriteS_any v xs w V0 hlen hbd).mono ?_
  rintro e w' ⟨⟨u, us, rfl, h⟩, hb⟩
  exact ⟨⟨_, u, rfl, us, h, rfl⟩, hb⟩
theorem toChanS_o (v : Value) (xs : List Cn) (w : World) (V0 : CnV w w.heap.size v xs) (hlen : xs.length ≤ 1048576) : Calls Tryz.prog 96 #[v] w fun e w' => (∃ F u, e = .returned u ∧ CnO2 F w' w.heap.size u xs) ∧ Below w.heap.size w w' := by
  refine (toChanS_v v xs w V0 hlen).mono ?_
  rintro e w' ⟨⟨u, rfl, h⟩, hb⟩
  exact ⟨⟨_, u, rfl, RwO.mk' h V0.oks⟩, hb⟩
theorem toHtlcS_o (v : Value) (xs : List Ht) (w : World) (V0 : HtV w w.heap.size v xs) (hlen : xs.length ≤ 1048576) : Calls Tryz.prog 97 #[v] w fun e w' => (∃ F u, e = .returned u ∧ HtO2 F w' w.heap.size u xs) ∧ Below w.heap.size w w' := by
  refine (toHtlcS_v v xs w V0 hlen).mono ?_
  rintro e w' ⟨⟨u, rfl, h⟩, hb⟩
  exact ⟨⟨_, u, rfl, RwO.mk' h V0.oks⟩, hb⟩
theorem toCircleS_o (v : Value) (xs : List Ci) (w : World) (V0 : CiV w w.heap.size v xs) (hlen : xs.length ≤ 1048576) : Calls Tryz.prog 98 #[v] w fun e w' => (∃ F u, e = .returned u ∧ CiO2 F w' w.heap.size u xs) ∧ Below w.heap.size w w' := by
  refine (toCircleS_v v xs w V0 hlen).mono ?_
  rintro e w' ⟨⟨u, rfl, h⟩, hb⟩
  exact ⟨⟨_, u, rfl, RwO.mk' h V0.oks⟩, hb⟩
theorem toEventS_o (v : Value) (xs : List Ev) (w : World) (V0 : EvV w w.heap.size v xs) (hlen : xs.length ≤ 1048576) : Calls Tryz.prog 27 #[v] w fun e w' => (∃ F u, e = .returned u ∧ EvO2 F w' w.heap.size u xs) ∧ Below w.heap.size w w' := by
  refine (toEventS_v v xs w V0 hlen).mono ?_
  rintro e w' ⟨⟨u, rfl, h⟩, hb⟩
  exact ⟨⟨_, u, rfl, RwO.mk' h V0.oks⟩, hb⟩
theorem toLineS_o (v : Value) (xs : List Ln) (w : World) (V0 : LnV w w.heap.size v xs) (hlen : xs.length ≤ 1048576) : Calls Tryz.prog 99 #[v] w fun e w' => (∃ F u, e = .returned u ∧ LnO2 F w' w.heap.size u xs) ∧ Below w.heap.size w w' := by
  refine (toLineS_v v xs w V0 hlen).mono ?_
  rintro e w' ⟨⟨u, rfl, h⟩, hb⟩
  exact ⟨⟨_, u, rfl, RwO.mk' h V0.oks⟩, hb⟩
theorem toIntS_o (v : Value) (xs : List Int) (w : World) (V0 : InV w w.heap.size v xs) (hlen : xs.length ≤ 1048576) : Calls Tryz.prog 28 #[v] w fun e w' => (∃ F u, e = .returned u ∧ InO2 F w' w.heap.size u xs) ∧ Below w.heap.size w w' := by
  refine (toIntS_v v xs w V0 hlen).mono ?_
  rintro e w' ⟨⟨u, rfl, h⟩, hb⟩
  exact ⟨⟨_, u, rfl, RwO.mk' h V0.oks⟩, hb⟩

end Go.Proofs.YtafbdbefmlgioaaGreatDoor
