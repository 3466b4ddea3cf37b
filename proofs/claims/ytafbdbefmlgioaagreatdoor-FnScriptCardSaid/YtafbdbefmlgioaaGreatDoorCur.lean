/- The cursor that the draws read. -/
import Derived.Test.YtafbdbefmlgioaaGreatDoorHold
namespace Go.Proofs.YtafbdbefmlgioaaGreatDoor
open Go.RowKit
set_option linter.unusedVariables false
set_option linter.unusedSimpArgs false

theorem bits_and_le (x m : Int) (h0 : 0 ≤ m) (h1 : m ≤ 9223372036854775807) : 0 ≤ bits .and .i64 x m ∧ bits .and .i64 x m ≤ m := by
  have hb : (BitVec.ofInt IntKind.i64.bits m).toNat = m.toNat := by
    show (BitVec.ofInt 64 m).toNat = m.toNat
    rw [BitVec.toNat_ofInt]; omega
  have h : ((BitVec.ofInt IntKind.i64.bits x) &&& (BitVec.ofInt IntKind.i64.bits m)).toNat ≤ m.toNat := by
    rw [BitVec.toNat_and, hb]; exact Nat.and_le_right
  show 0 ≤ IntKind.i64.wrap (((BitVec.ofInt IntKind.i64.bits x) &&& (BitVec.ofInt IntKind.i64.bits m)).toNat : Int) ∧ IntKind.i64.wrap (((BitVec.ofInt IntKind.i64.bits x) &&& (BitVec.ofInt IntKind.i64.bits m)).toNat : Int) ≤ m
  rw [IntKind.wrap_i64]
  omega
/-- a slice of bytes -/
abbrev Bs := FS (fun (x : Int) => [Value.int .u8 x]) 1 (fun x => 0 ≤ x ∧ x ≤ 255)
/-- the cursor in block g over a slice of bytes -/
structure Cur (w : World) (a : Option Addr) (len cap g : Nat) : Prop where
  lt : g < w.heap.size
  c0 : w.cell? ⟨g, 0, none⟩ = some (.slice a len cap)
  c1 : ∃ i : Nat, i ≤ len ∧ w.cell? ⟨g, 1, none⟩ = some (.int .i64 i)
  c2 : ∃ h : Int, w.cell? ⟨g, 2, none⟩ = some (.int .i64 h)
  fz : ∀ o, w.frozen? ⟨g, o, none⟩ = false
  by_ : ∃ xs, Bs w g a len xs
theorem Cur.keep {w w' : World} {a : Option Addr} {len cap g : Nat} (C : Cur w a len cap g) (hb : Below w.heap.size w w') : Cur w' a len cap g := by
  obtain ⟨hlt, c0, ⟨i, hi, c1⟩, ⟨h, c2⟩, fz, ⟨xs, hx⟩⟩ := C
  exact ⟨Nat.lt_of_lt_of_le hlt hb.size, cell_keep hb c0, ⟨i, hi, cell_keep hb c1⟩, ⟨h, cell_keep hb c2⟩, fun o => (frozen_keep hb hlt).trans (fz o), ⟨xs, FS.keepB hx hb (Nat.le_of_lt hlt)⟩⟩
/-- what a draw does: the cursor moves, what else there is stays -/
structure Drew (w : World) (a : Option Addr) (len cap g : Nat) (w' : World) : Prop where
  lt : g < w.heap.size
  cur : Cur w' a len cap g
  grown : w.grownBy w' (some g)
theorem Drew.refl {w : World} {a : Option Addr} {len cap g : Nat} (C : Cur w a len cap g) : Drew w a len cap g w := ⟨C.lt, C, World.grownBy.refl _ _⟩
theorem Drew.trans {w w1 w2 : World} {a : Option Addr} {len cap g : Nat} (h : Drew w a len cap g w1) (h2 : Drew w1 a len cap g w2) : Drew w a len cap g w2 := ⟨h.lt, h2.cur, grown_trans h.grown h2.grown⟩
theorem Drew.keep {w w1 w2 : World} {a : Option Addr} {len cap g : Nat} (h : Drew w a len cap g w1) (hb : Below w1.heap.size w1 w2) : Drew w a len cap g w2 := ⟨h.lt, h.cur.keep hb, grown_trans h.grown (grown_of_below g hb)⟩
theorem Drew.size {w w1 : World} {a : Option Addr} {len cap g : Nat} (h : Drew w a len cap g w1) : w.heap.size ≤ w1.heap.size := h.grown.size
theorem Drew.rules {W w1 : World} {a : Option Addr} {len cap g : Nat} (D : Drew W a len cap g w1) : (∀ b o, b < W.heap.size → b ≠ g → w1.cell? ⟨b, o, none⟩ = W.cell? ⟨b, o, none⟩) ∧ (∀ b o, b < W.heap.size → b ≠ g → w1.frozen? ⟨b, o, none⟩ = W.frozen? ⟨b, o, none⟩) ∧ (∀ b, b < W.heap.size → b < w1.heap.size) ∧ ¬ (w1.heap.size = g) ∧ ¬ (w1.heap.size + 1 = g) := by
  refine ⟨fun b o hb hne => ?_, fun b o hb hne => grown_fz D.grown hb hne, fun b hb => Nat.lt_of_lt_of_le hb D.size, by have := D.cur.lt; omega, by have := D.cur.lt; omega⟩
  have h := D.grown.block b hb (by intro h; injection h with h; exact hne h)
  simp only [World.cell?, h]
theorem Drew.drew {w w1 : World} {a : Option Addr} {len cap g : Nat} (D : Drew w a len cap g w1) : Drew w a len cap g w1.drew := D.keep (Below.drew (Below.refl _ _))
theorem Drew.alloc {w w1 : World} {a : Option Addr} {len cap g : Nat} (D : Drew w a len cap g w1) (o : Obj) : Drew w a len cap g (w1.alloc o) := D.keep (below_alloc (Below.refl _ _) o)
theorem Drew.setCell {w w1 : World} {a : Option Addr} {len cap g b o : Nat} (D : Drew w a len cap g w1) (hb : w.heap.size ≤ b) (v : Value) : Drew w a len cap g (w1.setCell ⟨b, o, none⟩ v) := by
  have hne : b ≠ g := by have := D.lt; omega
  obtain ⟨hl0, ⟨hlt, c0, ⟨i, hi, c1⟩, ⟨h, c2⟩, fz, ⟨xs, hx⟩⟩, hg⟩ := D
  have ne : ∀ o', (w1.setCell ⟨b, o, none⟩ v).cell? ⟨g, o', none⟩ = w1.cell? ⟨g, o', none⟩ := fun o' => by rw [World.cell?_setCell_other (h := by intro h; injection h with h _; exact hne h)]
  have hgr : w1.grownBy (w1.setCell ⟨b, o, none⟩ v) (some b) := grown_setCell w1 b o v
  refine ⟨hl0, ⟨by rw [show (w1.setCell ⟨b, o, none⟩ v).heap.size = w1.heap.size by simp [World.setCell]]; exact hlt, by rw [ne]; exact c0, ⟨i, hi, by rw [ne]; exact c1⟩, ⟨h, by rw [ne]; exact c2⟩, fun o => by rw [World.frozen?_setCell]; exact fz o, ⟨xs, ?_⟩⟩, ?_⟩
  · refine ⟨hx.1, hx.2.1, hx.2.2.1, fun i x hxi => ?_⟩
    obtain ⟨b', off, e, hlt', hc⟩ := hx.2.2.2 i x hxi
    refine ⟨b', off, e, hlt', fun j v' hv => ?_⟩
    have h1 := hc j v' hv
    rw [World.cell?_setCell_other (h := by intro h; injection h with h _; omega)]; exact h1
  · exact ⟨hg.os, hg.tape, hg.output, by simpa [World.setCell] using hg.size, fun k hk hk2 => ((Below.heap_setCell _ _ _ _ (by simp only; omega))).trans (hg.block k hk hk2)⟩
theorem Drew.same {w w1 w2 : World} {a : Option Addr} {len cap g : Nat} (_ : Drew w a len cap g w1) (h : Drew w a len cap g w2) : Cur w2 a len cap g := h.cur
theorem Drew.trans2 {w w1 w2 w3 : World} {a : Option Addr} {len cap g : Nat} (_ : Drew w a len cap g w1) (h : Drew w a len cap g w2) (h2 : Drew w2 a len cap g w3) : Drew w a len cap g w3 := h.trans h2
theorem lt_up {b m n : Nat} (h : b < m) (h2 : m ≤ n) : b < n := Nat.lt_of_lt_of_le h h2
theorem Drew.box {W w1 : World} {a : Option Addr} {len cap g : Nat} (D : Drew W a len cap g w1) (b : Nat) (h : W.heap.size = b + 1) : b < w1.heap.size := by have := D.size; omega
theorem cur_size (w : World) (p : Addr) (v : Value) : (w.setCell p v).heap.size = w.heap.size := by simp [World.setCell]

theorem Cur.grown {w w' : World} {a : Option Addr} {len cap g g' : Nat} (C : Cur w a len cap g) (hb : w.grownBy w' (some g')) (hne : g < g') : Cur w' a len cap g := by
  obtain ⟨hlt, c0, ⟨i, hi, c1⟩, ⟨h, c2⟩, fz, ⟨xs, hx⟩⟩ := C
  have ne : ∀ o, some (Addr.mk g o none).block ≠ some g' := by intro o h; injection h with h; simp only at h; omega
  exact ⟨Nat.lt_of_lt_of_le hlt hb.size, hb.cell c0 (ne _), ⟨i, hi, hb.cell c1 (ne _)⟩, ⟨h, hb.cell c2 (ne _)⟩, fun o => (grown_fz hb hlt (by omega)).trans (fz o), ⟨xs, FS.keepG hx hb (by omega)⟩⟩
theorem Drew.drewN {w w1 : World} {a : Option Addr} {len cap g : Nat} (D : Drew w a len cap g w1) (n : Nat) : Drew w a len cap g (w1.drewN n) := D.keep (below_drewN (Below.refl _ _))
theorem Drew.set2 {w w1 : World} {a : Option Addr} {len cap g : Nat} (D : Drew w a len cap g w1) (h : Int) : Drew w a len cap g (w1.setCell ⟨g, 2, none⟩ (.int .i64 h)) := by
  obtain ⟨hl0, ⟨hlt, c0, ⟨i, hi, c1⟩, ⟨h, c2⟩, fz, ⟨xs, hx⟩⟩, hg⟩ := D
  exact ⟨hl0, ⟨by rw [cur_size]; exact hlt, set_ne c0 (by omega), ⟨i, hi, set_ne c1 (by omega)⟩, ⟨_, set_eq c2⟩, fun o => by rw [World.frozen?_setCell]; exact fz o, ⟨xs, FS.keepG hx (grown_setCell w1 g 2 _) (Nat.le_refl _)⟩⟩, grown_trans hg (grown_setCell w1 g 2 _)⟩
theorem Drew.set1 {w w1 : World} {a : Option Addr} {len cap g : Nat} (D : Drew w a len cap g w1) (z : Int) (hz : ∃ i : Nat, i ≤ len ∧ z = i) : Drew w a len cap g (w1.setCell ⟨g, 1, none⟩ (.int .i64 z)) := by
  obtain ⟨hl0, ⟨hlt, c0, ⟨i, hi, c1⟩, ⟨h, c2⟩, fz, ⟨xs, hx⟩⟩, hg⟩ := D
  obtain ⟨i', hi', rfl⟩ := hz
  exact ⟨hl0, ⟨by rw [cur_size]; exact hlt, set_ne c0 (by omega), ⟨i', hi', set_eq c1⟩, ⟨_, set_ne c2 (by omega)⟩, fun o => by rw [World.frozen?_setCell]; exact fz o, ⟨xs, FS.keepG hx (grown_setCell w1 g 1 _) (Nat.le_refl _)⟩⟩, grown_trans hg (grown_setCell w1 g 1 _)⟩
theorem Drew.below {w w1 w2 : World} {a : Option Addr} {len cap : Nat} (H : Below w.heap.size w w1) (D : Drew w1 a len cap w.heap.size w2) : Below w.heap.size w w2 := H.trans (grown_below_of D.grown (Nat.le_refl _) H.size)
theorem Drew.own {w w1 w2 : World} {a : Option Addr} {len cap g B : Nat} (D : Drew w a len cap g w1) (hb : Below B w1 w2) (hB : w.heap.size ≤ B) : Drew w a len cap g w2 := by
  obtain ⟨hl0, ⟨hlt, c0, ⟨i, hi, c1⟩, ⟨h, c2⟩, fz, ⟨xs, hx⟩⟩, hg⟩ := D
  have ne : ∀ o, w2.cell? ⟨g, o, none⟩ = w1.cell? ⟨g, o, none⟩ := fun o => hb.cell (p := ⟨g, o, none⟩) (by show g < B; omega)
  refine ⟨hl0, ⟨Nat.lt_of_lt_of_le hlt hb.size, by rw [ne]; exact c0, ⟨i, hi, by rw [ne]; exact c1⟩, ⟨h, by rw [ne]; exact c2⟩, fun o => (hb.frozen (p := ⟨g, o, none⟩) (by show g < B; omega)).trans (fz o), ⟨xs, FS.keepB hx hb (by omega)⟩⟩, ?_⟩
  exact ⟨hb.os.trans hg.os, hb.tape.trans hg.tape, hb.output.trans hg.output, Nat.le_trans hg.size hb.size, fun k hk hne => (hb.block k (by omega)).trans (hg.block k hk hne)⟩
theorem Bs.at_ {w : World} {B : Nat} {a : Option Addr} {len : Nat} {xs : List Int} (h : Bs w B a len xs) {k : Nat} (hk : k < len) : ∃ b off x, a = some ⟨b, off, none⟩ ∧ b < B ∧ w.cell? ⟨b, off + k, none⟩ = some (.int .u8 x) ∧ 0 ≤ x ∧ x ≤ 255 := by
  obtain ⟨b, off, x, e, hb, hc, hok, _⟩ := FS.at_ h hk
  have := hc 0 _ rfl
  rw [Nat.mul_one, Nat.add_zero] at this
  exact ⟨b, off, x, e, hb, this, hok⟩

set_option maxHeartbeats 1600000 in
theorem byte_any (a : Option Addr) (len cap g : Nat) (w : World) (C0 : Cur w a len cap g) : Calls Tryz.prog 81 #[.pointer (some ⟨g, 0, none⟩)] w fun e w' =>
    (∃ x : Int, e = .returned (.int .i64 x) ∧ 0 ≤ x ∧ x ≤ 255) ∧ Drew w a len cap g w' := by
  have D0 := Drew.refl C0
  obtain ⟨hlt, c0, ⟨i, hi, c1⟩, ⟨h, c2⟩, fz, ⟨xs, hx⟩⟩ := C0
  have hl := hx.lenB
  have f1 := fz 1
  have f2 := fz 2
  by_cases hil : i < len
  · obtain ⟨b, off, x, rfl, hb, hc, hx0, hx1⟩ := Bs.at_ hx hil
    have hne : b ≠ g := by omega
    go_enter Tryz.func81, Tryz.ntmps81
    go_wp2
    go_quiet (fail)
    go_wp2
    go_quiet (fail)
    go_wp2
    go_quiet (fail)
    go_wp2
    go_ret
    exact ⟨⟨_, rfl, bits_and_le _ 255 (by omega) (by omega)⟩, ((D0.set2 _).drewN _).set1 _ ⟨i + 1, by omega, by omega⟩⟩
  · go_enter Tryz.func81, Tryz.ntmps81
    go_wp2
    go_quiet (fail)
    go_wp2
    go_quiet (fail)
    go_wp2
    go_ret
    exact ⟨⟨_, rfl, bits_and_le _ 255 (by omega) (by omega)⟩, ((D0.set2 _).drewN _).drewN _⟩

set_option maxRecDepth 100000 in
set_option maxHeartbeats 1600000 in
theorem new_any (a : Option Addr) (len cap : Nat) (xs : List Int) (w : World) (S0 : Bs w w.heap.size a len xs) : Calls Tryz.prog 42 #[.slice a len cap] w fun e w' =>
    e = .returned (.pointer (some ⟨w.heap.size, 0, none⟩)) ∧ Cur w' a len cap w.heap.size ∧ Below w.heap.size w w' := by
  have hl := S0.lenB
  go_enter Tryz.func42, Tryz.ntmps42
  go_wp2
  go_loop [3, 4] (fun vh i => ∃ (k : Nat) (h : Int), k ≤ len ∧ i = .int .i64 k ∧ vh = .int .i64 h) (fun _ i => len - (intOf i).toNat)
  case atStart => exact ⟨0, _, Nat.zero_le _, rfl, rfl⟩
  case round =>
    obtain ⟨k, h, hk, rfl, rfl⟩ := hrel
    by_cases hlt : k < len
    · obtain ⟨b, off, x, rfl, hb, hc, hx0, hx1⟩ := Bs.at_ S0 hlt
      by_cases h4 : k < 4000
      · go_wp2
        go_round
        case rel => exact ⟨k + 1, _, by omega, by go_num, rfl⟩
        case measure => simp [intOf]; omega
      · go_wp2
        go_ret
        refine ⟨rfl, ⟨by simp, by simp [go_sem], ⟨0, by omega, by simp [go_sem]⟩, ⟨h, by simp [go_sem]⟩, fun o => by simp [go_sem], ⟨xs, FS.keepB S0 (below_alloc (Below.refl _ _) _) (Nat.le_refl _)⟩⟩, below_alloc (Below.refl _ _) _⟩
    · go_wp2
      go_ret
      refine ⟨rfl, ⟨by simp, by simp [go_sem], ⟨0, by omega, by simp [go_sem]⟩, ⟨h, by simp [go_sem]⟩, fun o => by simp [go_sem], ⟨xs, FS.keepB S0 (below_alloc (Below.refl _ _) _) (Nat.le_refl _)⟩⟩, below_alloc (Below.refl _ _) _⟩

set_option maxHeartbeats 1600000 in
theorem below_any (a : Option Addr) (len cap g : Nat) (n : Int) (w : World) (C0 : Cur w a len cap g) : Calls Tryz.prog 44 #[.pointer (some ⟨g, 0, none⟩), .int .i64 n] w fun e w' =>
    (∃ x : Int, e = .returned (.int .i64 x) ∧ 0 ≤ x ∧ (0 < n → x < n)) ∧ Drew w a len cap g w' := by
  have D0 := Drew.refl C0
  by_cases h0 : n ≤ 0
  · go_enter Tryz.func44, Tryz.ntmps44
    go_wp2
    go_ret
    exact ⟨⟨0, rfl, Int.le_refl _, fun h => by omega⟩, D0⟩
  · by_cases h1 : n ≤ 256
    · have hn : n ≠ 0 := by omega
      go_enter Tryz.func44, Tryz.ntmps44
      go_wp2_with ((go_at_call 81; refine (byte_any _ _ _ _ _ (Drew.same D0 (by (repeat (first | (with_reducible exact D0) | (with_reducible refine Drew.setCell ?_ ?s1 _; case s1 => first | assumption | omega | (simp; omega)) | (with_reducible refine Drew.alloc ?_ _) | (with_reducible refine Drew.drewN ?_ _) | (with_reducible refine Drew.drew ?_)))))).mono ?_; rintro e w1 ⟨⟨x, rfl, hx0, hx1⟩, D1⟩; obtain ⟨hdc, hdf, hds, hdn, hdm⟩ := Drew.rules D1; have hdk := Drew.size D1; (try simp only [World.size_alloc, World.size_setCell, World.size_drew, World.heap_drewN] at hdk); clear hds; (try have L0 := lt_up L0 (show _ ≤ w1.heap.size by omega)); (try have L1 := lt_up L1 (show _ ≤ w1.heap.size by omega)); (try have L2 := lt_up L2 (show _ ≤ w1.heap.size by omega)); (try have L3 := lt_up L3 (show _ ≤ w1.heap.size by omega)); (try (first | ((fail_if_success (have ht := L0)); have L0 : w.heap.size < w1.heap.size := by omega) | ((fail_if_success (have ht := L1)); have L1 := Drew.box D1 _ (by simp only [World.size_alloc, World.size_setCell, World.size_drew, World.heap_drewN]; rfl)) | ((fail_if_success (have ht := L2)); have L2 := Drew.box D1 _ (by simp only [World.size_alloc, World.size_setCell, World.size_drew, World.heap_drewN]; rfl)) | ((fail_if_success (have ht := L3)); have L3 := Drew.box D1 _ (by simp only [World.size_alloc, World.size_setCell, World.size_drew, World.heap_drewN]; rfl)))); replace D0 := Drew.trans2 D0 (by (repeat (first | (with_reducible exact D0) | (with_reducible refine Drew.setCell ?_ ?s1 _; case s1 => first | assumption | omega | (simp; omega)) | (with_reducible refine Drew.alloc ?_ _) | (with_reducible refine Drew.drewN ?_ _) | (with_reducible refine Drew.drew ?_)))) D1; have hdz := Drew.size D0; clear D1))
      go_ret
      exact ⟨⟨_, rfl, Int.emod_nonneg _ hn, fun _ => Int.emod_lt_of_pos _ (by omega)⟩, D0⟩
    · have hn : n ≠ 0 := by omega
      go_enter Tryz.func44, Tryz.ntmps44
      go_wp2_with ((go_at_call 81; refine (byte_any _ _ _ _ _ (Drew.same D0 (by (repeat (first | (with_reducible exact D0) | (with_reducible refine Drew.setCell ?_ ?s1 _; case s1 => first | assumption | omega | (simp; omega)) | (with_reducible refine Drew.alloc ?_ _) | (with_reducible refine Drew.drewN ?_ _) | (with_reducible refine Drew.drew ?_)))))).mono ?_; rintro e w1 ⟨⟨x, rfl, hx0, hx1⟩, D1⟩; obtain ⟨hdc, hdf, hds, hdn, hdm⟩ := Drew.rules D1; have hdk := Drew.size D1; (try simp only [World.size_alloc, World.size_setCell, World.size_drew, World.heap_drewN] at hdk); clear hds; (try have L0 := lt_up L0 (show _ ≤ w1.heap.size by omega)); (try have L1 := lt_up L1 (show _ ≤ w1.heap.size by omega)); (try have L2 := lt_up L2 (show _ ≤ w1.heap.size by omega)); (try have L3 := lt_up L3 (show _ ≤ w1.heap.size by omega)); (try (first | ((fail_if_success (have ht := L0)); have L0 : w.heap.size < w1.heap.size := by omega) | ((fail_if_success (have ht := L1)); have L1 := Drew.box D1 _ (by simp only [World.size_alloc, World.size_setCell, World.size_drew, World.heap_drewN]; rfl)) | ((fail_if_success (have ht := L2)); have L2 := Drew.box D1 _ (by simp only [World.size_alloc, World.size_setCell, World.size_drew, World.heap_drewN]; rfl)) | ((fail_if_success (have ht := L3)); have L3 := Drew.box D1 _ (by simp only [World.size_alloc, World.size_setCell, World.size_drew, World.heap_drewN]; rfl)))); replace D0 := Drew.trans2 D0 (by (repeat (first | (with_reducible exact D0) | (with_reducible refine Drew.setCell ?_ ?s1 _; case s1 => first | assumption | omega | (simp; omega)) | (with_reducible refine Drew.alloc ?_ _) | (with_reducible refine Drew.drewN ?_ _) | (with_reducible refine Drew.drew ?_)))) D1; have hdz := Drew.size D0; clear D1))
      go_ret
      exact ⟨⟨_, rfl, Int.emod_nonneg _ hn, fun _ => Int.emod_lt_of_pos _ (by omega)⟩, D0⟩

theorem wrap64_bd (n : Int) : -9223372036854775808 ≤ wrap64 n ∧ wrap64 n ≤ 9223372036854775807 := by unfold wrap64; omega

set_option maxRecDepth 100000 in
set_option maxHeartbeats 3200000 in
theorem raw_any (a : Option Addr) (len cap g : Nat) (w : World) (C0 : Cur w a len cap g) : Calls Tryz.prog 122 #[.pointer (some ⟨g, 0, none⟩)] w fun e w' =>
    (∃ x : Int, e = .returned (.int .i64 x) ∧ -9223372036854775808 ≤ x ∧ x ≤ 9223372036854775807) ∧ Drew w a len cap g w' := by
  have D0 := Drew.refl C0
  go_enter Tryz.func122, Tryz.ntmps122
  go_wp2_with ((go_at_call 44; refine (below_any _ _ _ _ _ _ (Drew.same D0 (by (repeat (first | (with_reducible exact D0) | (with_reducible refine Drew.setCell ?_ ?s1 _; case s1 => first | assumption | omega | (simp; omega)) | (with_reducible refine Drew.alloc ?_ _) | (with_reducible refine Drew.drewN ?_ _) | (with_reducible refine Drew.drew ?_)))))).mono ?_; rintro e w1 ⟨⟨x, rfl, hx0, hx1⟩, D1⟩; obtain ⟨hdc, hdf, hds, hdn, hdm⟩ := Drew.rules D1; have hdk := Drew.size D1; (try simp only [World.size_alloc, World.size_setCell, World.size_drew, World.heap_drewN] at hdk); clear hds; (try have L0 := lt_up L0 (show _ ≤ w1.heap.size by omega)); (try have L1 := lt_up L1 (show _ ≤ w1.heap.size by omega)); (try have L2 := lt_up L2 (show _ ≤ w1.heap.size by omega)); (try have L3 := lt_up L3 (show _ ≤ w1.heap.size by omega)); (try (first | ((fail_if_success (have ht := L0)); have L0 : w.heap.size < w1.heap.size := by omega) | ((fail_if_success (have ht := L1)); have L1 := Drew.box D1 _ (by simp only [World.size_alloc, World.size_setCell, World.size_drew, World.heap_drewN]; rfl)) | ((fail_if_success (have ht := L2)); have L2 := Drew.box D1 _ (by simp only [World.size_alloc, World.size_setCell, World.size_drew, World.heap_drewN]; rfl)) | ((fail_if_success (have ht := L3)); have L3 := Drew.box D1 _ (by simp only [World.size_alloc, World.size_setCell, World.size_drew, World.heap_drewN]; rfl)))); replace D0 := Drew.trans2 D0 (by (repeat (first | (with_reducible exact D0) | (with_reducible refine Drew.setCell ?_ ?s1 _; case s1 => first | assumption | omega | (simp; omega)) | (with_reducible refine Drew.alloc ?_ _) | (with_reducible refine Drew.drewN ?_ _) | (with_reducible refine Drew.drew ?_)))) D1; have hdz := Drew.size D0; clear D1))
  all_goals
    go_ret
    refine ⟨⟨_, rfl, ?_⟩, D0⟩
    first | omega | exact wrap64_bd _

end Go.Proofs.YtafbdbefmlgioaaGreatDoor
