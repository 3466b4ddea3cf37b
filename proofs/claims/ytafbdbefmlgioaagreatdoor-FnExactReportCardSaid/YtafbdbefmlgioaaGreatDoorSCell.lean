/- Slices of bytes: the laws' own functions. -/
import Derived.Test.YtafbdbefmlgioaaGreatDoorNestP
import Derived.Test.YtafbdbefmlgioaaGreatDoorModD
import Derived.Deep.RegionHeld3
namespace Go.Proofs.YtafbdbefmlgioaaGreatDoor
open Go.RowKit
set_option linter.unusedVariables false
set_option linter.unusedSimpArgs false

def btE (b : UInt8) : List Value := [.int .u8 (b.toNat : Int)]
abbrev BtV := VS btE 1 (fun _ => True)
abbrev BtR := OwnF btE 1 5
theorem btE_len (b : UInt8) : (btE b).length = 1 := rfl
theorem btE_one (b : UInt8) : ∀ u ∈ btE b, u.oneCell' = true := by intro u hu; simp [btE] at hu; subst hu; rfl
theorem infoByte : (Tryz.prog.info? 5).map (fun i => (i.zero, i.size, i.bytes)) = some (some (.int .u8 0), 1, 1) := by kernel_rfl
theorem BtF.cell {w : World} {B : Nat} {a : Option Addr} {len : Nat} {xs : List UInt8} (h : FS btE 1 (fun _ => True) w B a len xs) {k : Nat} (hk : k < len) :
    ∃ g off x, a = some ⟨g, off, none⟩ ∧ g < B ∧ w.cell? ⟨g, off + k, none⟩ = some (.int .u8 (x.toNat : Int)) ∧ Hid (xs[k]? = some x) ∧ Hid (xs.take (k + 1) = xs.take k ++ [x]) := by
  obtain ⟨g, off, r, e, hb, hc, _, hx, ht⟩ := FS.at_ h hk
  have := hc 0 _ rfl
  rw [Nat.mul_one, Nat.add_zero] at this
  exact ⟨g, off, r, e, hb, this, hx, ht⟩
theorem u8_wrap (b : UInt8) : IntKind.u8.wrap (b.toNat : Int) = (b.toNat : Int) := by have := b.toNat_lt; rw [IntKind.wrap_u8]; omega

set_option maxHeartbeats 400000 in
theorem szByteS_any (a : Option Addr) (len cap : Nat) (n : Int) (w : World) (hl : len ≤ 9223372036854775807) (h0 : 0 ≤ n) (h1 : n ≤ 1048576) : Calls Tryz.prog 131 #[.slice a len cap, .int .i64 n] w fun e w' =>
    e = .returned (.int .i64 (if n - (len : Int) < 0 then -1 else n - len)) ∧ w = w' := by
  by_cases h : n - (len : Int) < 0
  · rw [if_pos h]
    go_enter Tryz.func131, Tryz.ntmps131
    go_wp2
    go_ret
    exact ⟨rfl, rfl⟩
  · rw [if_neg h]
    go_enter Tryz.func131, Tryz.ntmps131
    go_wp2
    go_ret
    exact ⟨rfl, rfl⟩

/-- the first k are written, so many as are wanted lie there -/
def BtPart (w : World) (B : Nat) (g len cap : Nat) (xs : List UInt8) (k : Nat) : Prop :=
  ∃ rest : List Value, w.ownsRow B 5 1 (.slice (some ⟨g, 0, none⟩) len cap) len ((xs.take k).flatMap btE ++ rest) ∧ rest.length = len - k
theorem BtPart.put {w : World} {B g len cap : Nat} {xs : List UInt8} {k : Nat} {x : UInt8} (h : BtPart w B g len cap xs k) (hx : xs.length = len) (hk : k < len) (ht : xs.take (k + 1) = xs.take k ++ [x]) : BtPart (w.setCell ⟨g, k, none⟩ (.int .u8 (x.toNat : Int))) B g len cap xs (k + 1) := by
  obtain ⟨rest, ho, hr⟩ := h
  have hl : ((xs.take k).flatMap btE).length = k := by rw [flatMap_len btE_len]; simp; omega
  obtain ⟨y, r', rfl⟩ : ∃ y r', rest = y :: r' := by
    cases rest with
    | nil => simp at hr; omega
    | cons y r' => exact ⟨y, r', rfl⟩
  have s0 := (ho.stored k (.int .u8 (x.toNat : Int))).1
  rw [set_at ((xs.take k).flatMap btE) r' y _ k hl.symm] at s0
  refine ⟨r', ?_, by simp at hr; omega⟩
  rw [ht, List.flatMap_append, List.flatMap_cons, List.flatMap_nil, List.append_nil]
  exact s0
theorem BtPart.cell {w : World} {B g len cap : Nat} {xs : List UInt8} {k : Nat} (h : BtPart w B g len cap xs k) (hx : xs.length = len) (hk : k < len) : B ≤ g ∧ (∃ y, w.cell? ⟨g, k, none⟩ = some y) ∧ w.frozen? ⟨g, k, none⟩ = false := by
  obtain ⟨rest, ho, hr⟩ := h
  refine ⟨(ho.lt g rfl).1, ⟨_, (ho.cellAt k (by omega)).trans (List.getElem?_eq_getElem (by have := ho.1; omega))⟩, ho.frozenAt k⟩

set_option maxHeartbeats 1600000 in
theorem toByteS_any (v : Value) (xs : List UInt8) (w : World) (V0 : BtV w w.heap.size v xs) (hlen : xs.length ≤ 1048576) : Calls Tryz.prog 136 #[v] w fun e w' =>
    (∃ u, e = .returned u ∧ BtR w' w.heap.size u xs) ∧ Below w.heap.size w w' := by
  obtain ⟨a, len, cap, rfl, hcap, hnil, hs⟩ := V0
  obtain rfl : xs.length = len := hs.1
  obtain ⟨len, hl⟩ : ∃ len, len = xs.length := ⟨_, rfl⟩
  rw [← hl] at hs hlen hcap ⊢
  have Hl := Lib.hid hl
  clear hl
  obtain ⟨i0, hi, hz0, hz1, hz2⟩ := info_parts infoByte
  go_enter Tryz.func136, Tryz.ntmps136
  go_wp2_with (at_make; refine wpList_make_full w rfl _ _ _ rfl w.heap.size 5 i0 (.int .u8 0) 1 Tryz.underlying72 hi hz0 hz1 .i64 .i64 _ _ len rfl rfl rfl rfl ?b2 ?b3 (Nat.le_refl _) ?_)
  case b2 => rw [hz2]; omega
  case b3 => unfold maxLen; omega
  intro w1 hown hgr
  have hB1 : Below w.heap.size w w1 := (Below.refl _ _).grown hgr (Nat.le_refl _) (by simp)
  have hown1 : BtPart w1 w.heap.size w.heap.size len len xs 0 := ⟨_, by simpa using hown, by simp [size_madeCells]⟩
  clear hown hgr
  go_wp2
  go_loopw [4] (fun i wr => ∃ k : Nat, k ≤ len ∧ i = .int .i64 k ∧ BtPart wr w.heap.size w.heap.size len len xs k ∧ Below w.heap.size w wr) (fun i _ => len - (intOf i).toNat)
  case atStart => exact ⟨0, Nat.zero_le _, rfl, hown1, hB1⟩
  case round =>
    obtain ⟨k, hk, rfl, hown, hB⟩ := hrel
    by_cases hlt : k < len
    · obtain ⟨g, off, x, rfl, hg, c0, hx, ht⟩ := BtF.cell (hs.keep hB) hlt
      obtain ⟨-, ⟨y, d0⟩, df⟩ := hown.cell Hl.out.symm hlt
      have hbd := byte_bd x
      clear hown1
      go_wp2
      go_roundw
      case rel => exact ⟨k + 1, by omega, by go_num, hown.put Hl.out.symm hlt ht.out, by (repeat (first | (with_reducible exact Below.refl _ _) | (with_reducible assumption) | (with_reducible refine Below.setCell ?_ ?side _; case side => first | (with_reducible exact Nat.le_refl _) | (simp; done) | (simp only [World.size_alloc, World.size_setCell, World.size_drew, World.heap_drewN] at *; omega)) | (with_reducible refine below_alloc ?_ _) | (with_reducible refine Below.drew ?_) | (with_reducible refine below_drewN ?_) | (with_reducible refine below_via (by assumption) ?_)))⟩
      case measure => simp [intOf]; omega
    · obtain ⟨rest, ho, hr⟩ := hown
      have e : k = len := by omega
      subst e
      have : rest = [] := List.eq_nil_of_length_eq_zero (by omega)
      subst this
      have Ho := Lib.hid ho
      clear ho
      go_wp2
      go_ret
      refine ⟨⟨_, rfl, ?_⟩, hB⟩
      have ho := Ho.out
      rw [List.take_of_length_le (by have := Hl.out; omega), List.append_nil] at ho
      unfold BtR OwnF
      rw [← Hl.out]
      exact ho

set_option maxHeartbeats 1600000 in
theorem eqByteS_any (v u : Value) (xs : List UInt8) (w : World) (V0 : BtV w w.heap.size v xs) (V1 : BtV w w.heap.size u xs) : Calls Tryz.prog 144 #[v, u] w fun e w' =>
    e = .returned (.bool true) ∧ Below w.heap.size w w' := by
  obtain ⟨a, len, cap, rfl, hcap, hnil, hs⟩ := V0
  obtain ⟨a', len', cap', rfl, hcap', hnil', hs'⟩ := V1
  obtain rfl : len = len' := hs.1.symm.trans hs'.1
  have hl := hs.lenB
  go_enter Tryz.func144, Tryz.ntmps144
  go_wp2
  go_loopw [5] (fun i wr => ∃ k : Nat, k ≤ len ∧ i = .int .i64 k ∧ Below w.heap.size w wr) (fun i _ => len - (intOf i).toNat)
  case atStart => exact ⟨0, Nat.zero_le _, rfl, Below.refl _ _⟩
  case round =>
    obtain ⟨k, hk, rfl, hB⟩ := hrel
    by_cases hlt : k < len
    · obtain ⟨g, off, x, rfl, hg, c0, hx, ht⟩ := BtF.cell (hs.keep hB) hlt
      obtain ⟨g', off', y, rfl, hg', d0, hy, -⟩ := BtF.cell (hs'.keep hB) hlt
      have he := hx.out
      rw [hy.out] at he
      obtain rfl := Option.some.inj he
      clear hx hy ht he
      go_wp2
      all_goals (try (go_quiet (fail)); try go_wp2)
      go_roundw
      case rel => exact ⟨k + 1, by omega, by go_num, by (repeat (first | (with_reducible exact Below.refl _ _) | (with_reducible assumption) | (with_reducible refine Below.setCell ?_ ?side _; case side => first | (with_reducible exact Nat.le_refl _) | (simp; done) | (simp only [World.size_alloc, World.size_setCell, World.size_drew, World.heap_drewN] at *; omega)) | (with_reducible refine below_alloc ?_ _) | (with_reducible refine Below.drew ?_) | (with_reducible refine below_drewN ?_) | (with_reducible refine below_via (by assumption) ?_)))⟩
      case measure => simp [intOf]; omega
    · go_wp2
      go_ret
      exact ⟨rfl, hB⟩

def CellK : Kd (List UInt8) UInt8 := ⟨fun _ u => [u], 1, id, fun _ => True, btE, 1, fun _ => True, 178, 5, fun _ _ => rfl, fun _ => rfl⟩
def WrK : Kd Wr UInt8 := ⟨fun x u => [.int .i64 x.at_, u], 2, Wr.bytes, fun x => I64 x.at_, btE, 1, fun _ => True, 180, 5, fun _ _ => rfl, fun _ => rfl⟩
theorem infoCell2 : (Tryz.prog.info? 178).map (fun i => (i.zero, i.size, i.bytes)) = some (some (.agg #[.slice none 0 0]), 1, 24) := by kernel_rfl
theorem infoWrite : (Tryz.prog.info? 180).map (fun i => (i.zero, i.size, i.bytes)) = some (some (.agg #[.int .i64 0, .slice none 0 0]), 2, 32) := by kernel_rfl
/-- the disk's two slices read -/
structure DkV (w : World) (B : Nat) (v0 v1 : Value) (d : Dk) : Prop where
  cells : VN CellK w B v0 d.cells
  dirty : VN WrK w B v1 d.dirty
theorem DkV.keepB {w w' : World} {B B' : Nat} {v0 v1 : Value} {d : Dk} (h : DkV w B v0 v1 d) (hb : Below B' w w') (hB : B ≤ B') : DkV w' B v0 v1 d := ⟨h.cells.keepB hb hB, h.dirty.keepB hb hB⟩
theorem DkV.mono {w : World} {B B' : Nat} {v0 v1 : Value} {d : Dk} (h : DkV w B v0 v1 d) (hB : B ≤ B') : DkV w B' v0 v1 d := ⟨h.cells.mono hB, h.dirty.mono hB⟩
theorem DkV.keep {w w' : World} {v0 v1 : Value} {d : Dk} (h : DkV w w.heap.size v0 v1 d) (hb : Below w.heap.size w w') : DkV w' w'.heap.size v0 v1 d := ⟨h.cells.keep hb, h.dirty.keep hb⟩
theorem DkV.ex {w w' : World} {B : Nat} {F : List Nat} {v0 v1 : Value} {d : Dk} (h : DkV w B v0 v1 d) (hx : Ex F w w') (hF : ∀ k ∈ F, B ≤ k) : DkV w' B v0 v1 d := ⟨h.cells.ex hx hF, h.dirty.ex hx hF⟩
/-- the cells and the writes in rows of the call's own; F: the blocks of all of them -/
def DkO (F : List Nat) (w : World) (B : Nat) (v0 v1 : Value) (d : Dk) : Prop := ∃ us vs, ON CellK w B v0 d.cells us ∧ ON WrK w B v1 d.dirty vs ∧ F = blks (v0 :: us) ++ blks (v1 :: vs) ∧ F.Nodup
section
variable {F G : List Nat} {w w' : World} {B B' : Nat} {v0 v1 : Value} {d : Dk}
theorem DkO.v (h : DkO F w B v0 v1 d) : DkV w w.heap.size v0 v1 d := by
  obtain ⟨us, vs, h1, h2, _⟩ := h
  exact ⟨h1.vn, h2.vn⟩
theorem DkO.lt (h : DkO F w B v0 v1 d) : ∀ k ∈ F, B ≤ k ∧ k < w.heap.size := by
  obtain ⟨us, vs, h1, h2, rfl, _⟩ := h
  intro k hk
  rcases List.mem_append.1 hk with hk | hk
  · exact h1.lt k hk
  · exact h2.lt k hk
theorem DkO.nd (h : DkO F w B v0 v1 d) : F.Nodup := by
  obtain ⟨us, vs, h1, h2, _, h3⟩ := h
  exact h3
theorem DkO.kept (h : DkO F w B v0 v1 d) (hx : Ex G w w') (hn : ∀ k ∈ F, k ∉ G) : DkO F w' B v0 v1 d := by
  obtain ⟨us, vs, h1, h2, rfl, h3⟩ := h
  exact ⟨us, vs, h1.kept hx (fun k hk => hn k (List.mem_append_left _ hk)), h2.kept hx (fun k hk => hn k (List.mem_append_right _ hk)), rfl, h3⟩
theorem DkO.keep (h : DkO F w B v0 v1 d) (hb : Below w.heap.size w w') : DkO F w' B v0 v1 d := h.kept (Ex.of_below hb []) (fun k _ => by simp)
theorem DkO.le (h : DkO F w B v0 v1 d) (hB : B' ≤ B) : DkO F w B' v0 v1 d := by
  obtain ⟨us, vs, h1, h2, h3⟩ := h
  exact ⟨us, vs, h1.le hB, h2.le hB, h3⟩
theorem nodup_fresh {n : Nat} (h1 : F.Nodup) (h2 : G.Nodup) (l1 : ∀ k ∈ F, k < n) (l2 : ∀ k ∈ G, n ≤ k) : (F ++ G).Nodup :=
  List.nodup_append.2 ⟨h1, h2, fun p hp q hq e => by have := l1 p hp; have := l2 q hq; omega⟩
end

theorem cellPut {w : World} {B g n cap : Nat} {xs : List (List UInt8)} {vs : List Value} {k : Nat} {x : List UInt8} {u : Value} (h : NP CellK w B g n cap (xs.take k) vs) (hk : k < n) (hx : xs.length = n) (ht : xs.take (k + 1) = xs.take k ++ [x]) (hu : BtR w B u x) (hn : ∀ k ∈ u.ownBlock.toList, k ∉ blks (.slice (some ⟨g, 0, none⟩) n cap :: vs)) :
    NP CellK (w.setCell ⟨g, k, none⟩ u) B g n cap (xs.take (k + 1)) (vs ++ [u]) ∧ w.grownBy (w.setCell ⟨g, k, none⟩ u) (some g) := by
  have hl : (xs.take k).length = k := by simp; omega
  have := h.put (x := x) (by omega) hu trivial (fun _ _ => trivial) hn
  rw [hl, ← ht] at this
  have e : w.setCells g (k * CellK.sz) (CellK.enc x u) = w.setCell ⟨g, k, none⟩ u := by show w.setCell ⟨g, k * 1, none⟩ u = _; rw [Nat.mul_one]
  rw [e] at this
  exact this

set_option maxHeartbeats 1600000 in
theorem toCell_any (u : Value) (x : List UInt8) (w : World) (V0 : BtV w w.heap.size u x) (hlen : x.length ≤ 1048576) : Calls Tryz.prog 100 #[.agg #[u]] w fun e w' => (∃ u2, e = .returned (.agg #[u2]) ∧ BtR w' w.heap.size u2 x) ∧ Below w.heap.size w w' := by
  obtain ⟨a, len, cap, hv, hcap, hnil, hs⟩ := id V0
  subst hv
  go_enter Tryz.func100, Tryz.ntmps100
  go_wp2_with fail
  refine (toByteS_any _ x _ (by first | exact V0.keep (by (repeat (first | (with_reducible exact Below.refl _ _) | (with_reducible assumption) | (with_reducible refine Below.setCell ?_ ?side _; case side => first | (with_reducible exact Nat.le_refl _) | (simp; done) | (simp only [World.size_alloc, World.size_setCell, World.size_drew, World.heap_drewN] at *; omega)) | (with_reducible refine below_alloc ?_ _) | (with_reducible refine Below.drew ?_) | (with_reducible refine below_drewN ?_) | (with_reducible refine below_via (by assumption) ?_))))) hlen).mono ?_
  rintro e w1 ⟨⟨ob, rfl, ho⟩, hb⟩
  have B1 := below_via hb (by (repeat (first | (with_reducible exact Below.refl _ _) | (with_reducible assumption) | (with_reducible refine Below.setCell ?_ ?side _; case side => first | (with_reducible exact Nat.le_refl _) | (simp; done) | (simp only [World.size_alloc, World.size_setCell, World.size_drew, World.heap_drewN] at *; omega)) | (with_reducible refine below_alloc ?_ _) | (with_reducible refine Below.drew ?_) | (with_reducible refine below_drewN ?_) | (with_reducible refine below_via (by assumption) ?_))) : Below w.heap.size w _)
  obtain ⟨hc0, hf0, hs0, hz0⟩ := brules hb
  have hob := OwnF.vs (ok := fun _ => True) btE_len ho (fun _ _ => trivial)
  obtain ⟨a2, n2, c2, rfl, -, -, -⟩ := hob
  go_wp2_with fail
  refine bodyPost_ret (v := .agg #[.slice a2 n2 c2]) (by simp [results, Tryz.results100, go_sem, *]) rfl ?_
  refine ⟨⟨_, rfl, ?_⟩, by (repeat (first | (with_reducible exact Below.refl _ _) | (with_reducible assumption) | (with_reducible refine Below.setCell ?_ ?side _; case side => first | (with_reducible exact Nat.le_refl _) | (simp; done) | (simp only [World.size_alloc, World.size_setCell, World.size_drew, World.heap_drewN] at *; omega)) | (with_reducible refine below_alloc ?_ _) | (with_reducible refine Below.drew ?_) | (with_reducible refine below_drewN ?_) | (with_reducible refine below_via (by assumption) ?_)))⟩
  refine OwnF.le (OwnF.kept ho (F := [w.heap.size, w.heap.size + 1, w.heap.size + 2]) (by (repeat (first | (with_reducible exact Ex.refl _ _) | (with_reducible assumption) | (with_reducible refine Ex.setCell ?_ ?side _; case side => first | (simp; done) | (simp only [World.size_alloc, World.size_setCell, World.size_drew, World.heap_drewN, List.mem_cons, List.mem_append, List.not_mem_nil, or_false] at *; omega)) | (with_reducible refine Ex.alloc ?_ _) | (with_reducible refine Ex.drew ?_) | (with_reducible refine Ex.drewN ?_)))) (fun k hk hm => ?_)) (by simp only [World.size_alloc]; omega)
  have h3 := (ho.blk k hk).1
  simp only [World.size_alloc] at h3
  simp only [List.mem_cons, List.not_mem_nil, or_false] at hm
  omega

set_option maxHeartbeats 1600000 in
theorem eqCell_any (u u2 : Value) (x : List UInt8) (w : World) (V0 : BtV w w.heap.size u x) (V1 : BtV w w.heap.size u2 x) : Calls Tryz.prog 110 #[.agg #[u], .agg #[u2]] w fun e w' => e = .returned (.bool true) ∧ Below w.heap.size w w' := by
  obtain ⟨a, len, cap, hv, -, -, -⟩ := id V0
  subst hv
  obtain ⟨a2, len2, cap2, hv, -, -, -⟩ := id V1
  subst hv
  go_enter Tryz.func110, Tryz.ntmps110
  go_wp2_with fail
  refine (eqByteS_any _ _ x _ (V0.keep (by (repeat (first | (with_reducible exact Below.refl _ _) | (with_reducible assumption) | (with_reducible refine Below.setCell ?_ ?side _; case side => first | (with_reducible exact Nat.le_refl _) | (simp; done) | (simp only [World.size_alloc, World.size_setCell, World.size_drew, World.heap_drewN] at *; omega)) | (with_reducible refine below_alloc ?_ _) | (with_reducible refine Below.drew ?_) | (with_reducible refine below_drewN ?_) | (with_reducible refine below_via (by assumption) ?_))))) (V1.keep (by (repeat (first | (with_reducible exact Below.refl _ _) | (with_reducible assumption) | (with_reducible refine Below.setCell ?_ ?side _; case side => first | (with_reducible exact Nat.le_refl _) | (simp; done) | (simp only [World.size_alloc, World.size_setCell, World.size_drew, World.heap_drewN] at *; omega)) | (with_reducible refine below_alloc ?_ _) | (with_reducible refine Below.drew ?_) | (with_reducible refine below_drewN ?_) | (with_reducible refine below_via (by assumption) ?_)))))).mono ?_
  rintro e w1 ⟨rfl, hb⟩
  have B1 := below_via hb (by (repeat (first | (with_reducible exact Below.refl _ _) | (with_reducible assumption) | (with_reducible refine Below.setCell ?_ ?side _; case side => first | (with_reducible exact Nat.le_refl _) | (simp; done) | (simp only [World.size_alloc, World.size_setCell, World.size_drew, World.heap_drewN] at *; omega)) | (with_reducible refine below_alloc ?_ _) | (with_reducible refine Below.drew ?_) | (with_reducible refine below_drewN ?_) | (with_reducible refine below_via (by assumption) ?_))) : Below w.heap.size w _)
  obtain ⟨hc0, hf0, hs0, hz0⟩ := brules hb
  go_wp2
  go_ret
  exact ⟨rfl, by (repeat (first | (with_reducible exact Below.refl _ _) | (with_reducible assumption) | (with_reducible refine Below.setCell ?_ ?side _; case side => first | (with_reducible exact Nat.le_refl _) | (simp; done) | (simp only [World.size_alloc, World.size_setCell, World.size_drew, World.heap_drewN] at *; omega)) | (with_reducible refine below_alloc ?_ _) | (with_reducible refine Below.drew ?_) | (with_reducible refine below_drewN ?_) | (with_reducible refine below_via (by assumption) ?_)))⟩

set_option maxHeartbeats 1600000 in
theorem szCell_any (u : Value) (x : List UInt8) (m : Int) (w : World) (V0 : BtV w w.heap.size u x) (h0 : 0 ≤ m) (h1 : m ≤ 1048576) : Calls Tryz.prog 94 #[.agg #[u], .int .i64 m] w fun e w' => (∃ r : Int, e = .returned (.int .i64 r) ∧ (r = -1 ∨ (0 ≤ r ∧ r ≤ m ∧ x.length ≤ 1048576))) ∧ Below w.heap.size w w' := by
  obtain ⟨a, len, cap, hv, -, -, hs⟩ := id V0
  subst hv
  have hl := hs.lenB
  have hln := hs.1
  by_cases h : m - (len : Int) < 0
  · go_enter Tryz.func94, Tryz.ntmps94
    go_wp2_with fail
    refine (szByteS_any _ _ _ _ _ hl h0 h1).mono ?_
    rintro e w1 ⟨he, rfl⟩
    rw [if_pos h] at he
    subst he
    go_wp2
    go_ret
    exact ⟨⟨_, rfl, .inl rfl⟩, by (repeat (first | (with_reducible exact Below.refl _ _) | (with_reducible assumption) | (with_reducible refine Below.setCell ?_ ?side _; case side => first | (with_reducible exact Nat.le_refl _) | (simp; done) | (simp only [World.size_alloc, World.size_setCell, World.size_drew, World.heap_drewN] at *; omega)) | (with_reducible refine below_alloc ?_ _) | (with_reducible refine Below.drew ?_) | (with_reducible refine below_drewN ?_) | (with_reducible refine below_via (by assumption) ?_)))⟩
  · have H := Lib.hid h
    go_enter Tryz.func94, Tryz.ntmps94
    go_wp2_with fail
    refine (szByteS_any _ _ _ _ _ hl h0 h1).mono ?_
    rintro e w1 ⟨he, rfl⟩
    rw [if_neg (by have := H.out; omega)] at he
    subst he
    go_wp2
    go_ret
    exact ⟨⟨_, rfl, .inr ⟨by omega, by omega, by omega⟩⟩, by (repeat (first | (with_reducible exact Below.refl _ _) | (with_reducible assumption) | (with_reducible refine Below.setCell ?_ ?side _; case side => first | (with_reducible exact Nat.le_refl _) | (simp; done) | (simp only [World.size_alloc, World.size_setCell, World.size_drew, World.heap_drewN] at *; omega)) | (with_reducible refine below_alloc ?_ _) | (with_reducible refine Below.drew ?_) | (with_reducible refine below_drewN ?_) | (with_reducible refine below_via (by assumption) ?_)))⟩

set_option maxRecDepth 100000 in
set_option maxHeartbeats 3200000 in
theorem toCellS_any (v : Value) (xs : List (List UInt8)) (w : World) (V0 : VN CellK w w.heap.size v xs) (hlen : xs.length ≤ 1048576) (hbd : ∀ x ∈ xs, (x).length ≤ 1048576) : Calls Tryz.prog 63 #[v] w fun e w' =>
    (∃ u us, e = .returned u ∧ ON CellK w' w.heap.size u xs us) ∧ Below w.heap.size w w' := by
  have V1 := V0
  obtain ⟨a, len, cap, rfl, hcap, hnil, hxl, hmx, hat⟩ := VN.at_ V0
  rw [hxl] at hlen
  have Hl := Lib.hid hxl.symm
  have hbd := Lib.hid hbd
  clear hxl V0 hat
  obtain ⟨i0, hi, hz0, hz1, hz2⟩ := info_parts infoCell2
  go_enter Tryz.func63, Tryz.ntmps63
  go_wp2_with (at_make; refine wpList_make_full w rfl _ _ _ rfl w.heap.size 178 i0 (.agg #[.slice none 0 0]) 1 Tryz.underlying44 hi hz0 hz1 .i64 .i64 _ _ len rfl rfl rfl rfl ?b2 ?b3 (Nat.le_refl _) ?_)
  case b2 => rw [hz2]; omega
  case b3 => unfold maxLen; omega
  intro w1 hown hgr
  have hB1 : Below w.heap.size w w1 := (Below.refl _ _).grown hgr (Nat.le_refl _) (by simp)
  have hown1 : NP CellK w1 w.heap.size w.heap.size len len [] [] := NP.start hown
  clear hown hgr
  go_wp2
  go_loopw [4] (fun i wr => ∃ (k : Nat) (vs : List Value), k ≤ len ∧ i = .int .i64 k ∧ NP CellK wr w.heap.size w.heap.size len len (xs.take k) vs ∧ Below w.heap.size w wr) (fun i _ => len - (intOf i).toNat)
  case atStart => exact ⟨0, [], Nat.zero_le _, rfl, hown1, hB1⟩
  case round =>
    obtain ⟨k, vs, hk, rfl, hown, hB⟩ := hrel
    by_cases hlt : k < len
    · obtain ⟨a0, len0, cap0, e0, -, -, -, -, hat⟩ := VN.at_ (V1.keep hB)
      injection e0 with e1 e2 e3
      subst e1; subst e2; subst e3
      obtain ⟨g, off, x, u, rfl, hg, hok, hu, hc, hx, ht⟩ := hat k hlt
      obtain ⟨a1, n1, cp1, hv, -, -, -⟩ := id hu
      subst hv
      have c0 := hc 0 _ rfl
      rw [show off + k * CellK.sz + 0 = off + k by show off + k * 1 + 0 = _; omega] at c0
      clear hc hat hown1
      go_wp2_with fail
      refine (toCell_any _ x _ (hu.keep (by (repeat (first | (with_reducible exact Below.refl _ _) | (with_reducible assumption) | (with_reducible refine Below.setCell ?_ ?side _; case side => first | (with_reducible exact Nat.le_refl _) | (simp; done) | (simp only [World.size_alloc, World.size_setCell, World.size_drew, World.heap_drewN] at *; omega)) | (with_reducible refine below_alloc ?_ _) | (with_reducible refine Below.drew ?_) | (with_reducible refine below_drewN ?_) | (with_reducible refine below_via (by assumption) ?_))))) (hbd.out x (List.mem_of_getElem? hx.out))).mono ?_
      rintro e w2 ⟨⟨ob, rfl, ho⟩, hb⟩
      have hB2 : Below w.heap.size w w2 := below_via hb (by (repeat (first | (with_reducible exact Below.refl _ _) | (with_reducible assumption) | (with_reducible refine Below.setCell ?_ ?side _; case side => first | (with_reducible exact Nat.le_refl _) | (simp; done) | (simp only [World.size_alloc, World.size_setCell, World.size_drew, World.heap_drewN] at *; omega)) | (with_reducible refine below_alloc ?_ _) | (with_reducible refine Below.drew ?_) | (with_reducible refine below_drewN ?_) | (with_reducible refine below_via (by assumption) ?_))))
      have hown2 := hown.keep (below_via hb (show Below wr.heap.size wr _ from by (repeat (first | (with_reducible exact Below.refl _ _) | (with_reducible assumption) | (with_reducible refine Below.setCell ?_ ?side _; case side => first | (with_reducible exact Nat.le_refl _) | (simp; done) | (simp only [World.size_alloc, World.size_setCell, World.size_drew, World.heap_drewN] at *; omega)) | (with_reducible refine below_alloc ?_ _) | (with_reducible refine Below.drew ?_) | (with_reducible refine below_drewN ?_) | (with_reducible refine below_via (by assumption) ?_)))))
      have hlt2 := hown.lt
      obtain ⟨hgB, hgw, hcl, hfz⟩ := hown2.cells (by rw [List.length_take]; have := Hl.out; omega)
      rw [List.length_take, Nat.min_eq_left (by have := Hl.out; omega)] at hcl
      have hob := OwnF.vs (ok := fun _ => True) btE_len ho (fun _ _ => trivial)
      obtain ⟨a2, n2, c2, rfl, -, -, -⟩ := hob
      obtain ⟨y0, d0⟩ := hcl 0 (by decide)
      rw [show k * CellK.sz + 0 = k by show k * 1 + 0 = _; omega] at d0
      have hnew : ∀ q ∈ (Value.slice a2 n2 c2).ownBlock.toList, q ∉ blks (.slice (some ⟨w.heap.size, 0, none⟩) len len :: vs) := fun q hq hm => by
        have h1 := (ho.blk q hq).1
        have h2 := (hlt2 q hm).2
        omega
      clear hcl hown
      go_wp2
      go_roundw
      case rel =>
        have hp := cellPut hown2 hlt Hl.out.symm ht.out (ho.le (Nat.le_trans hB.size (by simp))) hnew
        exact ⟨k + 1, _, by omega, by go_num, hp.1, by (repeat (first | (with_reducible exact Below.refl _ _) | (with_reducible assumption) | (with_reducible refine Below.setCell ?_ ?side _; case side => first | (with_reducible exact Nat.le_refl _) | (simp; done) | (simp only [World.size_alloc, World.size_setCell, World.size_drew, World.heap_drewN] at *; omega)) | (with_reducible refine below_alloc ?_ _) | (with_reducible refine Below.drew ?_) | (with_reducible refine below_drewN ?_) | (with_reducible refine below_via (by assumption) ?_)))⟩
      case measure => simp [intOf]; omega
    · have e : k = len := by omega
      subst e
      rw [List.take_of_length_le (by have := Hl.out; omega)] at hown
      have hd := Lib.hid (hown.done Hl.out.symm)
      clear hown
      go_wp2
      go_ret
      exact ⟨⟨_, vs, rfl, hd.out⟩, hB⟩

set_option maxRecDepth 100000 in
set_option maxHeartbeats 3200000 in
theorem eqCellS_any (v v' : Value) (xs : List (List UInt8)) (w : World) (V0 : VN CellK w w.heap.size v xs) (V1 : VN CellK w w.heap.size v' xs) : Calls Tryz.prog 72 #[v, v'] w fun e w' => e = .returned (.bool true) ∧ Below w.heap.size w w' := by
  have W0 := V0
  have W1 := V1
  obtain ⟨a, len, cap, rfl, -, -, hxl, hmx, -⟩ := VN.at_ V0
  obtain ⟨a', len', cap', rfl, -, -, hxl', -, -⟩ := VN.at_ V1
  obtain rfl : len = len' := hxl.symm.trans hxl'
  have hl : len ≤ 9223372036854775807 := by unfold maxLen at hmx; omega
  clear V0 V1 hxl hxl'
  go_enter Tryz.func72, Tryz.ntmps72
  go_wp2
  go_loopw [5] (fun i wr => ∃ k : Nat, k ≤ len ∧ i = .int .i64 k ∧ Below w.heap.size w wr) (fun i _ => len - (intOf i).toNat)
  case atStart => exact ⟨0, Nat.zero_le _, rfl, Below.refl _ _⟩
  case round =>
    obtain ⟨k, hk, rfl, hB⟩ := hrel
    by_cases hlt : k < len
    · obtain ⟨a0, len0, cap0, e0, -, -, -, -, hat⟩ := VN.at_ (W0.keep hB)
      injection e0 with e1 e2 e3
      subst e1; subst e2; subst e3
      obtain ⟨g, off, x, u, rfl, hg, hok, hu, hc, hx, ht⟩ := hat k hlt
      clear hat
      obtain ⟨a0, len0, cap0, e0, -, -, -, -, hat⟩ := VN.at_ (W1.keep hB)
      injection e0 with e1 e2 e3
      subst e1; subst e2; subst e3
      obtain ⟨g', off', x', u', rfl, hg', hok', hu', hd, hx', ht'⟩ := hat k hlt
      obtain rfl : x = x' := Option.some.inj (hx.out.symm.trans hx'.out)
      obtain ⟨a1, n1, cp1, hv, -, -, -⟩ := id hu
      subst hv
      obtain ⟨a2, n2, cp2, hv, -, -, -⟩ := id hu'
      subst hv
      have c0 := hc 0 _ rfl
      rw [show off + k * CellK.sz + 0 = off + k by show off + k * 1 + 0 = _; omega] at c0
      have d0 := hd 0 _ rfl
      rw [show off' + k * CellK.sz + 0 = off' + k by show off' + k * 1 + 0 = _; omega] at d0
      clear hc hd hat
      go_wp2_with fail
      go_region_held3 (fun w' => w'.cell? ⟨g, off + k, none⟩ = some (.slice a1 n1 cp1) ∧ w'.cell? ⟨g', off' + k, none⟩ = some (.slice a2 n2 cp2)) (go_keep) (first
        | (go_at_call 110; refine (eqCell_any _ _ (x) _ (hu.keep (by (repeat (first | (with_reducible exact Below.refl _ _) | (with_reducible assumption) | (with_reducible refine Below.setCell ?_ ?side _; case side => first | (with_reducible exact Nat.le_refl _) | (simp; done) | (simp only [World.size_alloc, World.size_setCell, World.size_drew, World.heap_drewN] at *; omega)) | (with_reducible refine below_alloc ?_ _) | (with_reducible refine Below.drew ?_) | (with_reducible refine below_drewN ?_) | (with_reducible refine below_via (by assumption) ?_))))) (hu'.keep (by (repeat (first | (with_reducible exact Below.refl _ _) | (with_reducible assumption) | (with_reducible refine Below.setCell ?_ ?side _; case side => first | (with_reducible exact Nat.le_refl _) | (simp; done) | (simp only [World.size_alloc, World.size_setCell, World.size_drew, World.heap_drewN] at *; omega)) | (with_reducible refine below_alloc ?_ _) | (with_reducible refine Below.drew ?_) | (with_reducible refine below_drewN ?_) | (with_reducible refine below_via (by assumption) ?_)))))).mono ?_; rintro e w2 ⟨rfl, hb2⟩; have hB2 := below_via hb2 (by (repeat (first | (with_reducible exact Below.refl _ _) | (with_reducible assumption) | (with_reducible refine Below.setCell ?_ ?side _; case side => first | (with_reducible exact Nat.le_refl _) | (simp; done) | (simp only [World.size_alloc, World.size_setCell, World.size_drew, World.heap_drewN] at *; omega)) | (with_reducible refine below_alloc ?_ _) | (with_reducible refine Below.drew ?_) | (with_reducible refine below_drewN ?_) | (with_reducible refine below_via (by assumption) ?_))) : Below w.heap.size w _); have c0x := cell_keep (below_via hb2 (show Below wr.heap.size wr _ from by (repeat (first | (with_reducible exact Below.refl _ _) | (with_reducible assumption) | (with_reducible refine Below.setCell ?_ ?side _; case side => first | (with_reducible exact Nat.le_refl _) | (simp; done) | (simp only [World.size_alloc, World.size_setCell, World.size_drew, World.heap_drewN] at *; omega)) | (with_reducible refine below_alloc ?_ _) | (with_reducible refine Below.drew ?_) | (with_reducible refine below_drewN ?_) | (with_reducible refine below_via (by assumption) ?_))))) c0; have d0x := cell_keep (below_via hb2 (show Below wr.heap.size wr _ from by (repeat (first | (with_reducible exact Below.refl _ _) | (with_reducible assumption) | (with_reducible refine Below.setCell ?_ ?side _; case side => first | (with_reducible exact Nat.le_refl _) | (simp; done) | (simp only [World.size_alloc, World.size_setCell, World.size_drew, World.heap_drewN] at *; omega)) | (with_reducible refine below_alloc ?_ _) | (with_reducible refine Below.drew ?_) | (with_reducible refine below_drewN ?_) | (with_reducible refine below_via (by assumption) ?_))))) d0))
      all_goals
        go_wp2
        go_roundw
        case rel => exact ⟨k + 1, by omega, by go_num, hB2⟩
        case measure => simp [intOf]; omega
    · go_wp2
      go_ret
      exact ⟨rfl, hB⟩

set_option maxRecDepth 100000 in
set_option maxHeartbeats 3200000 in
theorem szCellS_any (v : Value) (xs : List (List UInt8)) (m : Int) (w : World) (V0 : VN CellK w w.heap.size v xs) (h0 : 0 ≤ m) (h1 : m ≤ 1048576) : Calls Tryz.prog 56 #[v, .int .i64 m] w fun e w' => (∃ r : Int, e = .returned (.int .i64 r) ∧ (r = -1 ∨ (0 ≤ r ∧ r ≤ m ∧ xs.length ≤ 1048576 ∧ ∀ x ∈ xs, (x).length ≤ 1048576))) ∧ Below w.heap.size w w' := by
  have W0 := V0
  obtain ⟨a, len, cap, rfl, -, -, hxl, hmx, -⟩ := VN.at_ V0
  have hl : len ≤ 9223372036854775807 := by unfold maxLen at hmx; omega
  have Hl := Lib.hid hxl
  clear V0 hxl
  by_cases h : m - (len : Int) < 0
  · go_enter Tryz.func56, Tryz.ntmps56
    go_wp2
    go_ret
    exact ⟨⟨_, rfl, .inl rfl⟩, by (repeat (first | (with_reducible exact Below.refl _ _) | (with_reducible assumption) | (with_reducible refine Below.setCell ?_ ?side _; case side => first | (with_reducible exact Nat.le_refl _) | (simp; done) | (simp only [World.size_alloc, World.size_setCell, World.size_drew, World.heap_drewN] at *; omega)) | (with_reducible refine below_alloc ?_ _) | (with_reducible refine Below.drew ?_) | (with_reducible refine below_drewN ?_) | (with_reducible refine below_via (by assumption) ?_)))⟩
  · go_enter Tryz.func56, Tryz.ntmps56
    go_wp2
    go_loopw [1, 5] (fun q i wr => ∃ (k : Nat) (z : Int), k ≤ len ∧ i = .int .i64 k ∧ q = .int .i64 z ∧ (0 ≤ z ∧ z ≤ m) ∧ Hid (∀ x ∈ xs.take k, (x).length ≤ 1048576) ∧ Below w.heap.size w wr) (fun _ i _ => len - (intOf i).toNat)
    case atStart => exact ⟨0, _, Nat.zero_le _, rfl, rfl, by omega, by intro x hx; simp at hx, Below.refl _ _⟩
    case round =>
      obtain ⟨k, z, hk, rfl, rfl, hz, hall, hB⟩ := hrel
      by_cases hlt : k < len
      · obtain ⟨a0, len0, cap0, e0, -, -, -, -, hat⟩ := VN.at_ (W0.keep hB)
        injection e0 with e1 e2 e3
        subst e1; subst e2; subst e3
        obtain ⟨g, off, x, u, rfl, hg, hok, hu, hc, hx, ht⟩ := hat k hlt
        obtain ⟨a1, n1, cp1, hv, -, -, -⟩ := id hu
        subst hv
        have c0 := hc 0 _ rfl
        rw [show off + k * CellK.sz + 0 = off + k by show off + k * 1 + 0 = _; omega] at c0
        clear hc hat
        go_wp2_with fail
        refine (szCell_any _ (x) _ _ (hu.keep (by (repeat (first | (with_reducible exact Below.refl _ _) | (with_reducible assumption) | (with_reducible refine Below.setCell ?_ ?side _; case side => first | (with_reducible exact Nat.le_refl _) | (simp; done) | (simp only [World.size_alloc, World.size_setCell, World.size_drew, World.heap_drewN] at *; omega)) | (with_reducible refine below_alloc ?_ _) | (with_reducible refine Below.drew ?_) | (with_reducible refine below_drewN ?_) | (with_reducible refine below_via (by assumption) ?_))))) hz.1 (by omega)).mono ?_
        rintro e w2 ⟨⟨r, rfl, hr⟩, hb⟩
        have hB2 : Below w.heap.size w w2 := below_via hb (by (repeat (first | (with_reducible exact Below.refl _ _) | (with_reducible assumption) | (with_reducible refine Below.setCell ?_ ?side _; case side => first | (with_reducible exact Nat.le_refl _) | (simp; done) | (simp only [World.size_alloc, World.size_setCell, World.size_drew, World.heap_drewN] at *; omega)) | (with_reducible refine below_alloc ?_ _) | (with_reducible refine Below.drew ?_) | (with_reducible refine below_drewN ?_) | (with_reducible refine below_via (by assumption) ?_))))
        rcases hr with rfl | ⟨r0, r1, r2⟩
        · go_wp2
          go_ret
          exact ⟨⟨_, rfl, .inl rfl⟩, by (repeat (first | (with_reducible exact Below.refl _ _) | (with_reducible assumption) | (with_reducible refine Below.setCell ?_ ?side _; case side => first | (with_reducible exact Nat.le_refl _) | (simp; done) | (simp only [World.size_alloc, World.size_setCell, World.size_drew, World.heap_drewN] at *; omega)) | (with_reducible refine below_alloc ?_ _) | (with_reducible refine Below.drew ?_) | (with_reducible refine below_drewN ?_) | (with_reducible refine below_via (by assumption) ?_)))⟩
        · have hall2 : Hid (∀ y ∈ xs.take (k + 1), (y).length ≤ 1048576) := fun y hy => by
            rw [ht.out] at hy
            rcases List.mem_append.1 hy with hy | hy
            · exact hall.out y hy
            · simp at hy; subst hy; exact r2
          go_wp2
          go_roundw
          case rel => exact ⟨k + 1, r, by omega, by go_num, rfl, by omega, hall2, hB2⟩
          case measure => simp [intOf]; omega
      · rw [List.take_of_length_le (by have := Hl.out; omega)] at hall
        go_wp2
        go_ret
        exact ⟨⟨_, rfl, .inr ⟨hz.1, hz.2, by have := Hl.out; omega, hall.out⟩⟩, hB⟩

theorem writePut {w : World} {B g n cap : Nat} {xs : List Wr} {vs : List Value} {k : Nat} {x : Wr} {u : Value} (h : NP WrK w B g n cap (xs.take k) vs) (hk : k < n) (hx : xs.length = n) (ht : xs.take (k + 1) = xs.take k ++ [x]) (hu : BtR w B u x.bytes) (hi : I64 x.at_) (hn : ∀ k ∈ u.ownBlock.toList, k ∉ blks (.slice (some ⟨g, 0, none⟩) n cap :: vs)) :
    NP WrK ((w.setCell ⟨g, k * 2, none⟩ (.int .i64 x.at_)).setCell ⟨g, k * 2 + 1, none⟩ u) B g n cap (xs.take (k + 1)) (vs ++ [u]) ∧ w.grownBy ((w.setCell ⟨g, k * 2, none⟩ (.int .i64 x.at_)).setCell ⟨g, k * 2 + 1, none⟩ u) (some g) := by
  have hl : (xs.take k).length = k := by simp; omega
  have := h.put (x := x) (by omega) hu hi (fun _ _ => trivial) hn
  rw [hl, ← ht] at this
  exact this

set_option maxHeartbeats 1600000 in
theorem toWrite_any (n : Int) (u : Value) (x : List UInt8) (w : World) (V0 : BtV w w.heap.size u x) (hlen : x.length ≤ 1048576) : Calls Tryz.prog 101 #[.agg #[.int .i64 n, u]] w fun e w' => (∃ u2, e = .returned (.agg #[.int .i64 n, u2]) ∧ BtR w' w.heap.size u2 x) ∧ Below w.heap.size w w' := by
  obtain ⟨a, len, cap, hv, hcap, hnil, hs⟩ := id V0
  subst hv
  go_enter Tryz.func101, Tryz.ntmps101
  go_wp2_with fail
  refine (toByteS_any _ x _ (by first | exact V0.keep (by (repeat (first | (with_reducible exact Below.refl _ _) | (with_reducible assumption) | (with_reducible refine Below.setCell ?_ ?side _; case side => first | (with_reducible exact Nat.le_refl _) | (simp; done) | (simp only [World.size_alloc, World.size_setCell, World.size_drew, World.heap_drewN] at *; omega)) | (with_reducible refine below_alloc ?_ _) | (with_reducible refine Below.drew ?_) | (with_reducible refine below_drewN ?_) | (with_reducible refine below_via (by assumption) ?_))))) hlen).mono ?_
  rintro e w1 ⟨⟨ob, rfl, ho⟩, hb⟩
  have B1 := below_via hb (by (repeat (first | (with_reducible exact Below.refl _ _) | (with_reducible assumption) | (with_reducible refine Below.setCell ?_ ?side _; case side => first | (with_reducible exact Nat.le_refl _) | (simp; done) | (simp only [World.size_alloc, World.size_setCell, World.size_drew, World.heap_drewN] at *; omega)) | (with_reducible refine below_alloc ?_ _) | (with_reducible refine Below.drew ?_) | (with_reducible refine below_drewN ?_) | (with_reducible refine below_via (by assumption) ?_))) : Below w.heap.size w _)
  obtain ⟨hc0, hf0, hs0, hz0⟩ := brules hb
  have hob := OwnF.vs (ok := fun _ => True) btE_len ho (fun _ _ => trivial)
  obtain ⟨a2, n2, c2, rfl, -, -, -⟩ := hob
  go_wp2_with fail
  refine bodyPost_ret (v := .agg #[.int .i64 n, .slice a2 n2 c2]) (by simp [results, Tryz.results101, go_sem, *]) rfl ?_
  refine ⟨⟨_, rfl, ?_⟩, by (repeat (first | (with_reducible exact Below.refl _ _) | (with_reducible assumption) | (with_reducible refine Below.setCell ?_ ?side _; case side => first | (with_reducible exact Nat.le_refl _) | (simp; done) | (simp only [World.size_alloc, World.size_setCell, World.size_drew, World.heap_drewN] at *; omega)) | (with_reducible refine below_alloc ?_ _) | (with_reducible refine Below.drew ?_) | (with_reducible refine below_drewN ?_) | (with_reducible refine below_via (by assumption) ?_)))⟩
  refine OwnF.le (OwnF.kept ho (F := [w.heap.size, w.heap.size + 1, w.heap.size + 2]) (by (repeat (first | (with_reducible exact Ex.refl _ _) | (with_reducible assumption) | (with_reducible refine Ex.setCell ?_ ?side _; case side => first | (simp; done) | (simp only [World.size_alloc, World.size_setCell, World.size_drew, World.heap_drewN, List.mem_cons, List.mem_append, List.not_mem_nil, or_false] at *; omega)) | (with_reducible refine Ex.alloc ?_ _) | (with_reducible refine Ex.drew ?_) | (with_reducible refine Ex.drewN ?_)))) (fun k hk hm => ?_)) (by simp only [World.size_alloc]; omega)
  have h3 := (ho.blk k hk).1
  simp only [World.size_alloc] at h3
  simp only [List.mem_cons, List.not_mem_nil, or_false] at hm
  omega

set_option maxHeartbeats 1600000 in
theorem eqWrite_any (n : Int) (u u2 : Value) (x : List UInt8) (w : World) (V0 : BtV w w.heap.size u x) (V1 : BtV w w.heap.size u2 x) : Calls Tryz.prog 111 #[.agg #[.int .i64 n, u], .agg #[.int .i64 n, u2]] w fun e w' => e = .returned (.bool true) ∧ Below w.heap.size w w' := by
  obtain ⟨a, len, cap, hv, -, -, -⟩ := id V0
  subst hv
  obtain ⟨a2, len2, cap2, hv, -, -, -⟩ := id V1
  subst hv
  go_enter Tryz.func111, Tryz.ntmps111
  go_wp2_with fail
  refine (eqByteS_any _ _ x _ (V0.keep (by (repeat (first | (with_reducible exact Below.refl _ _) | (with_reducible assumption) | (with_reducible refine Below.setCell ?_ ?side _; case side => first | (with_reducible exact Nat.le_refl _) | (simp; done) | (simp only [World.size_alloc, World.size_setCell, World.size_drew, World.heap_drewN] at *; omega)) | (with_reducible refine below_alloc ?_ _) | (with_reducible refine Below.drew ?_) | (with_reducible refine below_drewN ?_) | (with_reducible refine below_via (by assumption) ?_))))) (V1.keep (by (repeat (first | (with_reducible exact Below.refl _ _) | (with_reducible assumption) | (with_reducible refine Below.setCell ?_ ?side _; case side => first | (with_reducible exact Nat.le_refl _) | (simp; done) | (simp only [World.size_alloc, World.size_setCell, World.size_drew, World.heap_drewN] at *; omega)) | (with_reducible refine below_alloc ?_ _) | (with_reducible refine Below.drew ?_) | (with_reducible refine below_drewN ?_) | (with_reducible refine below_via (by assumption) ?_)))))).mono ?_
  rintro e w1 ⟨rfl, hb⟩
  have B1 := below_via hb (by (repeat (first | (with_reducible exact Below.refl _ _) | (with_reducible assumption) | (with_reducible refine Below.setCell ?_ ?side _; case side => first | (with_reducible exact Nat.le_refl _) | (simp; done) | (simp only [World.size_alloc, World.size_setCell, World.size_drew, World.heap_drewN] at *; omega)) | (with_reducible refine below_alloc ?_ _) | (with_reducible refine Below.drew ?_) | (with_reducible refine below_drewN ?_) | (with_reducible refine below_via (by assumption) ?_))) : Below w.heap.size w _)
  obtain ⟨hc0, hf0, hs0, hz0⟩ := brules hb
  go_wp2
  go_ret
  exact ⟨rfl, by (repeat (first | (with_reducible exact Below.refl _ _) | (with_reducible assumption) | (with_reducible refine Below.setCell ?_ ?side _; case side => first | (with_reducible exact Nat.le_refl _) | (simp; done) | (simp only [World.size_alloc, World.size_setCell, World.size_drew, World.heap_drewN] at *; omega)) | (with_reducible refine below_alloc ?_ _) | (with_reducible refine Below.drew ?_) | (with_reducible refine below_drewN ?_) | (with_reducible refine below_via (by assumption) ?_)))⟩

set_option maxHeartbeats 1600000 in
theorem szWrite_any (n : Int) (u : Value) (x : List UInt8) (m : Int) (w : World) (V0 : BtV w w.heap.size u x) (h0 : 0 ≤ m) (h1 : m ≤ 1048576) : Calls Tryz.prog 95 #[.agg #[.int .i64 n, u], .int .i64 m] w fun e w' => (∃ r : Int, e = .returned (.int .i64 r) ∧ (r = -1 ∨ (0 ≤ r ∧ r ≤ m ∧ x.length ≤ 1048576))) ∧ Below w.heap.size w w' := by
  obtain ⟨a, len, cap, hv, -, -, hs⟩ := id V0
  subst hv
  have hl := hs.lenB
  have hln := hs.1
  by_cases h : m - (len : Int) < 0
  · go_enter Tryz.func95, Tryz.ntmps95
    go_wp2_with fail
    refine (szByteS_any _ _ _ _ _ hl h0 h1).mono ?_
    rintro e w1 ⟨he, rfl⟩
    rw [if_pos h] at he
    subst he
    go_wp2
    go_ret
    exact ⟨⟨_, rfl, .inl rfl⟩, by (repeat (first | (with_reducible exact Below.refl _ _) | (with_reducible assumption) | (with_reducible refine Below.setCell ?_ ?side _; case side => first | (with_reducible exact Nat.le_refl _) | (simp; done) | (simp only [World.size_alloc, World.size_setCell, World.size_drew, World.heap_drewN] at *; omega)) | (with_reducible refine below_alloc ?_ _) | (with_reducible refine Below.drew ?_) | (with_reducible refine below_drewN ?_) | (with_reducible refine below_via (by assumption) ?_)))⟩
  · have H := Lib.hid h
    go_enter Tryz.func95, Tryz.ntmps95
    go_wp2_with fail
    refine (szByteS_any _ _ _ _ _ hl h0 h1).mono ?_
    rintro e w1 ⟨he, rfl⟩
    rw [if_neg (by have := H.out; omega)] at he
    subst he
    go_wp2
    go_ret
    exact ⟨⟨_, rfl, .inr ⟨by omega, by omega, by omega⟩⟩, by (repeat (first | (with_reducible exact Below.refl _ _) | (with_reducible assumption) | (with_reducible refine Below.setCell ?_ ?side _; case side => first | (with_reducible exact Nat.le_refl _) | (simp; done) | (simp only [World.size_alloc, World.size_setCell, World.size_drew, World.heap_drewN] at *; omega)) | (with_reducible refine below_alloc ?_ _) | (with_reducible refine Below.drew ?_) | (with_reducible refine below_drewN ?_) | (with_reducible refine below_via (by assumption) ?_)))⟩

set_option maxRecDepth 100000 in
set_option maxHeartbeats 3200000 in
theorem toWriteS_any (v : Value) (xs : List (Wr)) (w : World) (V0 : VN WrK w w.heap.size v xs) (hlen : xs.length ≤ 1048576) (hbd : ∀ x ∈ xs, (x.bytes).length ≤ 1048576) : Calls Tryz.prog 64 #[v] w fun e w' =>
    (∃ u us, e = .returned u ∧ ON WrK w' w.heap.size u xs us) ∧ Below w.heap.size w w' := by
  have V1 := V0
  obtain ⟨a, len, cap, rfl, hcap, hnil, hxl, hmx, hat⟩ := VN.at_ V0
  rw [hxl] at hlen
  have Hl := Lib.hid hxl.symm
  have hbd := Lib.hid hbd
  clear hxl V0 hat
  obtain ⟨i0, hi, hz0, hz1, hz2⟩ := info_parts infoWrite
  go_enter Tryz.func64, Tryz.ntmps64
  go_wp2_with (at_make; refine wpList_make_full w rfl _ _ _ rfl w.heap.size 180 i0 (.agg #[.int .i64 0, .slice none 0 0]) 2 Tryz.underlying45 hi hz0 hz1 .i64 .i64 _ _ len rfl rfl rfl rfl ?b2 ?b3 (Nat.le_refl _) ?_)
  case b2 => rw [hz2]; omega
  case b3 => unfold maxLen; omega
  intro w1 hown hgr
  have hB1 : Below w.heap.size w w1 := (Below.refl _ _).grown hgr (Nat.le_refl _) (by simp)
  have hown1 : NP WrK w1 w.heap.size w.heap.size len len [] [] := NP.start hown
  clear hown hgr
  go_wp2
  go_loopw [4] (fun i wr => ∃ (k : Nat) (vs : List Value), k ≤ len ∧ i = .int .i64 k ∧ NP WrK wr w.heap.size w.heap.size len len (xs.take k) vs ∧ Below w.heap.size w wr) (fun i _ => len - (intOf i).toNat)
  case atStart => exact ⟨0, [], Nat.zero_le _, rfl, hown1, hB1⟩
  case round =>
    obtain ⟨k, vs, hk, rfl, hown, hB⟩ := hrel
    by_cases hlt : k < len
    · obtain ⟨a0, len0, cap0, e0, -, -, -, -, hat⟩ := VN.at_ (V1.keep hB)
      injection e0 with e1 e2 e3
      subst e1; subst e2; subst e3
      obtain ⟨g, off, x, u, rfl, hg, hok, hu, hc, hx, ht⟩ := hat k hlt
      obtain ⟨a1, n1, cp1, hv, -, -, -⟩ := id hu
      subst hv
      have c0 := hc 0 _ rfl
      have c1 := hc 1 _ rfl
      rw [show off + k * WrK.sz + 0 = off + k * 2 by show off + k * 2 + 0 = _; omega] at c0
      rw [show off + k * WrK.sz + 1 = off + k * 2 + 1 from rfl] at c1
      clear hc hat hown1
      go_wp2_with fail
      refine (toWrite_any _ _ x.bytes _ (hu.keep (by (repeat (first | (with_reducible exact Below.refl _ _) | (with_reducible assumption) | (with_reducible refine Below.setCell ?_ ?side _; case side => first | (with_reducible exact Nat.le_refl _) | (simp; done) | (simp only [World.size_alloc, World.size_setCell, World.size_drew, World.heap_drewN] at *; omega)) | (with_reducible refine below_alloc ?_ _) | (with_reducible refine Below.drew ?_) | (with_reducible refine below_drewN ?_) | (with_reducible refine below_via (by assumption) ?_))))) (hbd.out x (List.mem_of_getElem? hx.out))).mono ?_
      rintro e w2 ⟨⟨ob, rfl, ho⟩, hb⟩
      have hB2 : Below w.heap.size w w2 := below_via hb (by (repeat (first | (with_reducible exact Below.refl _ _) | (with_reducible assumption) | (with_reducible refine Below.setCell ?_ ?side _; case side => first | (with_reducible exact Nat.le_refl _) | (simp; done) | (simp only [World.size_alloc, World.size_setCell, World.size_drew, World.heap_drewN] at *; omega)) | (with_reducible refine below_alloc ?_ _) | (with_reducible refine Below.drew ?_) | (with_reducible refine below_drewN ?_) | (with_reducible refine below_via (by assumption) ?_))))
      have hown2 := hown.keep (below_via hb (show Below wr.heap.size wr _ from by (repeat (first | (with_reducible exact Below.refl _ _) | (with_reducible assumption) | (with_reducible refine Below.setCell ?_ ?side _; case side => first | (with_reducible exact Nat.le_refl _) | (simp; done) | (simp only [World.size_alloc, World.size_setCell, World.size_drew, World.heap_drewN] at *; omega)) | (with_reducible refine below_alloc ?_ _) | (with_reducible refine Below.drew ?_) | (with_reducible refine below_drewN ?_) | (with_reducible refine below_via (by assumption) ?_)))))
      have hlt2 := hown.lt
      obtain ⟨hgB, hgw, hcl, hfz⟩ := hown2.cells (by rw [List.length_take]; have := Hl.out; omega)
      rw [List.length_take, Nat.min_eq_left (by have := Hl.out; omega)] at hcl
      have hob := OwnF.vs (ok := fun _ => True) btE_len ho (fun _ _ => trivial)
      obtain ⟨a2, n2, c2, rfl, -, -, -⟩ := hob
      obtain ⟨y0, d0⟩ := hcl 0 (by decide)
      obtain ⟨y1, d1⟩ := hcl 1 (by decide)
      rw [show k * WrK.sz + 0 = k * 2 by show k * 2 + 0 = _; omega] at d0
      rw [show k * WrK.sz + 1 = k * 2 + 1 from rfl] at d1
      have hnew : ∀ q ∈ (Value.slice a2 n2 c2).ownBlock.toList, q ∉ blks (.slice (some ⟨w.heap.size, 0, none⟩) len len :: vs) := fun q hq hm => by
        have h1 := (ho.blk q hq).1
        have h2 := (hlt2 q hm).2
        omega
      clear hcl hown
      go_wp2
      go_roundw
      case rel =>
        have hp := writePut hown2 hlt Hl.out.symm ht.out (ho.le (Nat.le_trans hB.size (by simp))) hok hnew
        exact ⟨k + 1, _, by omega, by go_num, hp.1, by (repeat (first | (with_reducible exact Below.refl _ _) | (with_reducible assumption) | (with_reducible refine Below.setCell ?_ ?side _; case side => first | (with_reducible exact Nat.le_refl _) | (simp; done) | (simp only [World.size_alloc, World.size_setCell, World.size_drew, World.heap_drewN] at *; omega)) | (with_reducible refine below_alloc ?_ _) | (with_reducible refine Below.drew ?_) | (with_reducible refine below_drewN ?_) | (with_reducible refine below_via (by assumption) ?_)))⟩
      case measure => simp [intOf]; omega
    · have e : k = len := by omega
      subst e
      rw [List.take_of_length_le (by have := Hl.out; omega)] at hown
      have hd := Lib.hid (hown.done Hl.out.symm)
      clear hown
      go_wp2
      go_ret
      exact ⟨⟨_, vs, rfl, hd.out⟩, hB⟩

set_option maxRecDepth 100000 in
set_option maxHeartbeats 3200000 in
theorem eqWriteS_any (v v' : Value) (xs : List (Wr)) (w : World) (V0 : VN WrK w w.heap.size v xs) (V1 : VN WrK w w.heap.size v' xs) : Calls Tryz.prog 73 #[v, v'] w fun e w' => e = .returned (.bool true) ∧ Below w.heap.size w w' := by
  have W0 := V0
  have W1 := V1
  obtain ⟨a, len, cap, rfl, -, -, hxl, hmx, -⟩ := VN.at_ V0
  obtain ⟨a', len', cap', rfl, -, -, hxl', -, -⟩ := VN.at_ V1
  obtain rfl : len = len' := hxl.symm.trans hxl'
  have hl : len ≤ 9223372036854775807 := by unfold maxLen at hmx; omega
  clear V0 V1 hxl hxl'
  go_enter Tryz.func73, Tryz.ntmps73
  go_wp2
  go_loopw [5] (fun i wr => ∃ k : Nat, k ≤ len ∧ i = .int .i64 k ∧ Below w.heap.size w wr) (fun i _ => len - (intOf i).toNat)
  case atStart => exact ⟨0, Nat.zero_le _, rfl, Below.refl _ _⟩
  case round =>
    obtain ⟨k, hk, rfl, hB⟩ := hrel
    by_cases hlt : k < len
    · obtain ⟨a0, len0, cap0, e0, -, -, -, -, hat⟩ := VN.at_ (W0.keep hB)
      injection e0 with e1 e2 e3
      subst e1; subst e2; subst e3
      obtain ⟨g, off, x, u, rfl, hg, hok, hu, hc, hx, ht⟩ := hat k hlt
      clear hat
      obtain ⟨a0, len0, cap0, e0, -, -, -, -, hat⟩ := VN.at_ (W1.keep hB)
      injection e0 with e1 e2 e3
      subst e1; subst e2; subst e3
      obtain ⟨g', off', x', u', rfl, hg', hok', hu', hd, hx', ht'⟩ := hat k hlt
      obtain rfl : x = x' := Option.some.inj (hx.out.symm.trans hx'.out)
      obtain ⟨a1, n1, cp1, hv, -, -, -⟩ := id hu
      subst hv
      obtain ⟨a2, n2, cp2, hv, -, -, -⟩ := id hu'
      subst hv
      have c0 := hc 0 _ rfl
      have c1 := hc 1 _ rfl
      rw [show off + k * WrK.sz + 0 = off + k * 2 by show off + k * 2 + 0 = _; omega] at c0
      rw [show off + k * WrK.sz + 1 = off + k * 2 + 1 from rfl] at c1
      have d0 := hd 0 _ rfl
      have d1 := hd 1 _ rfl
      rw [show off' + k * WrK.sz + 0 = off' + k * 2 by show off' + k * 2 + 0 = _; omega] at d0
      rw [show off' + k * WrK.sz + 1 = off' + k * 2 + 1 from rfl] at d1
      clear hc hd hat
      go_wp2_with fail
      go_region_held3 (fun w' => w'.cell? ⟨g, off + k * 2, none⟩ = some (.int .i64 x.at_) ∧ w'.cell? ⟨g, off + k * 2 + 1, none⟩ = some (.slice a1 n1 cp1) ∧ w'.cell? ⟨g', off' + k * 2, none⟩ = some (.int .i64 x.at_) ∧ w'.cell? ⟨g', off' + k * 2 + 1, none⟩ = some (.slice a2 n2 cp2)) (go_keep) (first
        | (go_at_call 111; refine (eqWrite_any _ _ _ (x.bytes) _ (hu.keep (by (repeat (first | (with_reducible exact Below.refl _ _) | (with_reducible assumption) | (with_reducible refine Below.setCell ?_ ?side _; case side => first | (with_reducible exact Nat.le_refl _) | (simp; done) | (simp only [World.size_alloc, World.size_setCell, World.size_drew, World.heap_drewN] at *; omega)) | (with_reducible refine below_alloc ?_ _) | (with_reducible refine Below.drew ?_) | (with_reducible refine below_drewN ?_) | (with_reducible refine below_via (by assumption) ?_))))) (hu'.keep (by (repeat (first | (with_reducible exact Below.refl _ _) | (with_reducible assumption) | (with_reducible refine Below.setCell ?_ ?side _; case side => first | (with_reducible exact Nat.le_refl _) | (simp; done) | (simp only [World.size_alloc, World.size_setCell, World.size_drew, World.heap_drewN] at *; omega)) | (with_reducible refine below_alloc ?_ _) | (with_reducible refine Below.drew ?_) | (with_reducible refine below_drewN ?_) | (with_reducible refine below_via (by assumption) ?_)))))).mono ?_; rintro e w2 ⟨rfl, hb2⟩; have hB2 := below_via hb2 (by (repeat (first | (with_reducible exact Below.refl _ _) | (with_reducible assumption) | (with_reducible refine Below.setCell ?_ ?side _; case side => first | (with_reducible exact Nat.le_refl _) | (simp; done) | (simp only [World.size_alloc, World.size_setCell, World.size_drew, World.heap_drewN] at *; omega)) | (with_reducible refine below_alloc ?_ _) | (with_reducible refine Below.drew ?_) | (with_reducible refine below_drewN ?_) | (with_reducible refine below_via (by assumption) ?_))) : Below w.heap.size w _); have c0x := cell_keep (below_via hb2 (show Below wr.heap.size wr _ from by (repeat (first | (with_reducible exact Below.refl _ _) | (with_reducible assumption) | (with_reducible refine Below.setCell ?_ ?side _; case side => first | (with_reducible exact Nat.le_refl _) | (simp; done) | (simp only [World.size_alloc, World.size_setCell, World.size_drew, World.heap_drewN] at *; omega)) | (with_reducible refine below_alloc ?_ _) | (with_reducible refine Below.drew ?_) | (with_reducible refine below_drewN ?_) | (with_reducible refine below_via (by assumption) ?_))))) c0; have c1x := cell_keep (below_via hb2 (show Below wr.heap.size wr _ from by (repeat (first | (with_reducible exact Below.refl _ _) | (with_reducible assumption) | (with_reducible refine Below.setCell ?_ ?side _; case side => first | (with_reducible exact Nat.le_refl _) | (simp; done) | (simp only [World.size_alloc, World.size_setCell, World.size_drew, World.heap_drewN] at *; omega)) | (with_reducible refine below_alloc ?_ _) | (with_reducible refine Below.drew ?_) | (with_reducible refine below_drewN ?_) | (with_reducible refine below_via (by assumption) ?_))))) c1; have d0x := cell_keep (below_via hb2 (show Below wr.heap.size wr _ from by (repeat (first | (with_reducible exact Below.refl _ _) | (with_reducible assumption) | (with_reducible refine Below.setCell ?_ ?side _; case side => first | (with_reducible exact Nat.le_refl _) | (simp; done) | (simp only [World.size_alloc, World.size_setCell, World.size_drew, World.heap_drewN] at *; omega)) | (with_reducible refine below_alloc ?_ _) | (with_reducible refine Below.drew ?_) | (with_reducible refine below_drewN ?_) | (with_reducible refine below_via (by assumption) ?_))))) d0; have d1x := cell_keep (below_via hb2 (show Below wr.heap.size wr _ from by (repeat (first | (with_reducible exact Below.refl _ _) | (with_reducible assumption) | (with_reducible refine Below.setCell ?_ ?side _; case side => first | (with_reducible exact Nat.le_refl _) | (simp; done) | (simp only [World.size_alloc, World.size_setCell, World.size_drew, World.heap_drewN] at *; omega)) | (with_reducible refine below_alloc ?_ _) | (with_reducible refine Below.drew ?_) | (with_reducible refine below_drewN ?_) | (with_reducible refine below_via (by assumption) ?_))))) d1))
      all_goals
        go_wp2
        go_roundw
        case rel => exact ⟨k + 1, by omega, by go_num, hB2⟩
        case measure => simp [intOf]; omega
    · go_wp2
      go_ret
      exact ⟨rfl, hB⟩

set_option maxRecDepth 100000 in
set_option maxHeartbeats 3200000 in
theorem szWriteS_any (v : Value) (xs : List (Wr)) (m : Int) (w : World) (V0 : VN WrK w w.heap.size v xs) (h0 : 0 ≤ m) (h1 : m ≤ 1048576) : Calls Tryz.prog 57 #[v, .int .i64 m] w fun e w' => (∃ r : Int, e = .returned (.int .i64 r) ∧ (r = -1 ∨ (0 ≤ r ∧ r ≤ m ∧ xs.length ≤ 1048576 ∧ ∀ x ∈ xs, (x.bytes).length ≤ 1048576))) ∧ Below w.heap.size w w' := by
  have W0 := V0
  obtain ⟨a, len, cap, rfl, -, -, hxl, hmx, -⟩ := VN.at_ V0
  have hl : len ≤ 9223372036854775807 := by unfold maxLen at hmx; omega
  have Hl := Lib.hid hxl
  clear V0 hxl
  by_cases h : m - (len : Int) < 0
  · go_enter Tryz.func57, Tryz.ntmps57
    go_wp2
    go_ret
    exact ⟨⟨_, rfl, .inl rfl⟩, by (repeat (first | (with_reducible exact Below.refl _ _) | (with_reducible assumption) | (with_reducible refine Below.setCell ?_ ?side _; case side => first | (with_reducible exact Nat.le_refl _) | (simp; done) | (simp only [World.size_alloc, World.size_setCell, World.size_drew, World.heap_drewN] at *; omega)) | (with_reducible refine below_alloc ?_ _) | (with_reducible refine Below.drew ?_) | (with_reducible refine below_drewN ?_) | (with_reducible refine below_via (by assumption) ?_)))⟩
  · go_enter Tryz.func57, Tryz.ntmps57
    go_wp2
    go_loopw [1, 5] (fun q i wr => ∃ (k : Nat) (z : Int), k ≤ len ∧ i = .int .i64 k ∧ q = .int .i64 z ∧ (0 ≤ z ∧ z ≤ m) ∧ Hid (∀ x ∈ xs.take k, (x.bytes).length ≤ 1048576) ∧ Below w.heap.size w wr) (fun _ i _ => len - (intOf i).toNat)
    case atStart => exact ⟨0, _, Nat.zero_le _, rfl, rfl, by omega, by intro x hx; simp at hx, Below.refl _ _⟩
    case round =>
      obtain ⟨k, z, hk, rfl, rfl, hz, hall, hB⟩ := hrel
      by_cases hlt : k < len
      · obtain ⟨a0, len0, cap0, e0, -, -, -, -, hat⟩ := VN.at_ (W0.keep hB)
        injection e0 with e1 e2 e3
        subst e1; subst e2; subst e3
        obtain ⟨g, off, x, u, rfl, hg, hok, hu, hc, hx, ht⟩ := hat k hlt
        obtain ⟨a1, n1, cp1, hv, -, -, -⟩ := id hu
        subst hv
        have c0 := hc 0 _ rfl
        have c1 := hc 1 _ rfl
        rw [show off + k * WrK.sz + 0 = off + k * 2 by show off + k * 2 + 0 = _; omega] at c0
        rw [show off + k * WrK.sz + 1 = off + k * 2 + 1 from rfl] at c1
        clear hc hat
        go_wp2_with fail
        refine (szWrite_any _ _ (x.bytes) _ _ (hu.keep (by (repeat (first | (with_reducible exact Below.refl _ _) | (with_reducible assumption) | (with_reducible refine Below.setCell ?_ ?side _; case side => first | (with_reducible exact Nat.le_refl _) | (simp; done) | (simp only [World.size_alloc, World.size_setCell, World.size_drew, World.heap_drewN] at *; omega)) | (with_reducible refine below_alloc ?_ _) | (with_reducible refine Below.drew ?_) | (with_reducible refine below_drewN ?_) | (with_reducible refine below_via (by assumption) ?_))))) hz.1 (by omega)).mono ?_
        rintro e w2 ⟨⟨r, rfl, hr⟩, hb⟩
        have hB2 : Below w.heap.size w w2 := below_via hb (by (repeat (first | (with_reducible exact Below.refl _ _) | (with_reducible assumption) | (with_reducible refine Below.setCell ?_ ?side _; case side => first | (with_reducible exact Nat.le_refl _) | (simp; done) | (simp only [World.size_alloc, World.size_setCell, World.size_drew, World.heap_drewN] at *; omega)) | (with_reducible refine below_alloc ?_ _) | (with_reducible refine Below.drew ?_) | (with_reducible refine below_drewN ?_) | (with_reducible refine below_via (by assumption) ?_))))
        rcases hr with rfl | ⟨r0, r1, r2⟩
        · go_wp2
          go_ret
          exact ⟨⟨_, rfl, .inl rfl⟩, by (repeat (first | (with_reducible exact Below.refl _ _) | (with_reducible assumption) | (with_reducible refine Below.setCell ?_ ?side _; case side => first | (with_reducible exact Nat.le_refl _) | (simp; done) | (simp only [World.size_alloc, World.size_setCell, World.size_drew, World.heap_drewN] at *; omega)) | (with_reducible refine below_alloc ?_ _) | (with_reducible refine Below.drew ?_) | (with_reducible refine below_drewN ?_) | (with_reducible refine below_via (by assumption) ?_)))⟩
        · have hall2 : Hid (∀ y ∈ xs.take (k + 1), (y.bytes).length ≤ 1048576) := fun y hy => by
            rw [ht.out] at hy
            rcases List.mem_append.1 hy with hy | hy
            · exact hall.out y hy
            · simp at hy; subst hy; exact r2
          go_wp2
          go_roundw
          case rel => exact ⟨k + 1, r, by omega, by go_num, rfl, by omega, hall2, hB2⟩
          case measure => simp [intOf]; omega
      · rw [List.take_of_length_le (by have := Hl.out; omega)] at hall
        go_wp2
        go_ret
        exact ⟨⟨_, rfl, .inr ⟨hz.1, hz.2, by have := Hl.out; omega, hall.out⟩⟩, hB⟩

end Go.Proofs.YtafbdbefmlgioaaGreatDoor
