/- sort.SliceStable's merging half walked: the rows exchanged. -/
import Derived.Test.YtfijgegegfpfkaaSymU
import Derived.Test.YtfijgegegfpfkaaShelf
import Derived.Test.YtfijgegegfpfkaaInts
import Derived.Shelf.GgSortFunc.SW
namespace Go.Proofs.Ytfijgegegfpfkaa
open Go.RowKit Go.Shelf Go.Lib Go.Sort
set_option linter.unusedVariables false
set_option linter.unusedSimpArgs false
variable {nn : Nat}

def eI (nn i : Nat) : Value := .int .i64 ((i % nn : Nat) : Int)
def dat (g : Nat) (lb : Array Value) (sf : Nat) (sb : Array Value) : Array Value := #[.func (.func g) #[] lb, .func (.func sf) #[] sb]
theorem sw_call {w0 W W' : World} {blk off : Nat} {dk d' : Array Nat} (h : SW (eI nn) w0 blk off dk W) (h2 : SW (eI nn) W blk off d' W') (hblk : blk < w0.heap.size) (hs : d'.size = dk.size) : SW (eI nn) w0 blk off d' W' := by
  obtain ⟨n, os, rfl⟩ := h2
  exact h.on hblk n d' os hs
theorem sw_up {w0 W : World} {blk off : Nat} {dk : Array Nat} {o : Obj} (h : SW (eI nn) (w0.alloc o) blk off dk W) (hblk : blk < w0.heap.size) : SW (eI nn) w0 blk off dk W := by
  obtain ⟨n, os, rfl⟩ := h
  exact ⟨n, _, sortWorld_alloc (eI nn) w0 o blk off n dk os hblk⟩
theorem sw_box {w0 W : World} {blk off : Nat} {dk : Array Nat} {o : Obj} (h : SW (eI nn) (w0.alloc o) blk off dk W) (hblk : blk < w0.heap.size) (k : Nat) {v : Value} (hv : (w0.alloc o).cell? ⟨w0.heap.size, k, none⟩ = some v) : W.cell? ⟨w0.heap.size, k, none⟩ = some v := by
  obtain ⟨n, os, rfl⟩ := h
  unfold sortWorld
  rw [cell?_grow _ _ _ (by rw [size_putRow]; show w0.heap.size < (w0.alloc _).heap.size; simp), cell?_putRow_other (eI nn) _ blk off _ _ (Or.inl (by show w0.heap.size ≠ blk; omega))]
  exact hv
theorem sw_drew {w0 W : World} {blk off : Nat} {dk : Array Nat} (h : SW (eI nn) w0 blk off dk W) (q : Nat) : SW (eI nn) w0 blk off dk (W.drewN q) := h.drewN q
theorem holds_alloc {w : World} {blk off : Nat} {d : Array Nat} (hblk : blk < w.heap.size) (h : Holds (eI nn) w blk off d) (o : Obj) : Holds (eI nn) (w.alloc o) blk off d := by rw [alloc_eq_grow]; exact holds_grow (eI nn) w _ blk off d hblk h
theorem less_alloc {P : Program} {g : Nat} {lb : Array Value} {lt : Nat → Nat → Bool} {blk off size : Nat} {w : World} (h : LessReads P g lb (eI nn) lt blk off size w) (hblk : blk < w.heap.size) (o : Obj) : LessReads P g lb (eI nn) lt blk off size (w.alloc o) := by rw [alloc_eq_grow]; exact h.grow hblk _

set_option maxHeartbeats 800000 in
theorem swapRange_w (g : Nat) (lb : Array Value) (sf : Nat) (sb : Array Value) (blk off a b n : Nat) (d : Array Nat) (w : World) (hswap : SwapSwaps Try.prog sf sb (eI nn) blk off d.size)
    (hH : Holds (eI nn) w blk off d) (hblk : blk < w.heap.size) (hab : a + n ≤ b) (hb : b + n ≤ d.size) (hsz : d.size < 1048576) :
    Calls Try.prog 51 #[.agg (dat g lb sf sb), .int .i64 a, .int .i64 b, .int .i64 n] w fun e w' => e = .returned (.tuple #[]) ∧ ∃ d', SwR a b n d d' ∧ SW (eI nn) w blk off d' w' := by
  have hH1 := holds_alloc hblk hH (.cells (dat g lb sf sb) 59)
  have c0 : (w.alloc (.cells (dat g lb sf sb) 59)).cell? ⟨w.heap.size, 1, none⟩ = some (.func (.func sf) #[] sb) := by simp [dat]
  have hst := SW.start hH1
  have hblk1 : blk < (w.alloc (.cells (dat g lb sf sb) 59)).heap.size := by simp; omega
  go_enter Try.func51, Try.ntmps51
  go_wp2
  generalize hW : w.alloc (.cells (dat g lb sf sb) 59) = W at hH1 c0 hst hblk1 ⊢
  go_loopw [8] (fun i wr => ∃ (k : Nat) (dk : Array Nat), i = .int .i64 k ∧ k ≤ n ∧ SwR a b k d dk ∧ SW (eI nn) W blk off dk wr) (fun i _ => n - (intOf i).toNat)
  case atStart => exact ⟨0, d, rfl, Nat.zero_le _, SwR.start a b d, hst⟩
  case round =>
    obtain ⟨k, dk, rfl, hk, hR, hS⟩ := hrel
    have hc : wr.cell? ⟨w.heap.size, 1, none⟩ = some (.func (.func sf) #[] sb) := by
      subst hW
      exact sw_box hS hblk 1 c0
    have hz := hR.1
    by_cases hlt : k < n
    · have hh := hS.holds hblk1 hH1 hz
      have hs := hswap wr dk hh hz (a + k) (b + k) (by omega) (by omega)
      have hS' := hS.swap hblk1 (a + k) (b + k) (by omega) (by omega)
      have hR' := hR.step (by omega) (by omega)
      rw [show (((a + k : Nat) : Int)) = (a : Int) + k by omega, show (((b + k : Nat) : Int)) = (b : Int) + k by omega] at hs
      go_wp2
      go_roundw
      case rel => exact ⟨k + 1, _, by go_num, by omega, hR', hS'⟩
      case measure => simp [intOf]; omega
    · obtain rfl : k = n := by omega
      go_wp2
      go_end0
      exact ⟨rfl, dk, hR, by subst hW; exact sw_up hS hblk⟩

set_option maxHeartbeats 1600000 in
theorem rotate_w (g : Nat) (lb : Array Value) (sf : Nat) (sb : Array Value) (blk off a m b : Nat) (d : Array Nat) (w : World) (hswap : SwapSwaps Try.prog sf sb (eI nn) blk off d.size)
    (hH : Holds (eI nn) w blk off d) (hblk : blk < w.heap.size) (ham : a < m) (hmb : m < b) (hb : b ≤ d.size) (hsz : d.size < 1048576) :
    Calls Try.prog 50 #[.agg (dat g lb sf sb), .int .i64 a, .int .i64 m, .int .i64 b] w fun e w' => e = .returned (.tuple #[]) ∧ ∃ d', Rot a m b d d' ∧ SW (eI nn) w blk off d' w' := by
  have hH1 := holds_alloc hblk hH (.cells (dat g lb sf sb) 59)
  have c0 : (w.alloc (.cells (dat g lb sf sb) 59)).cell? ⟨w.heap.size, 0, none⟩ = some (.func (.func g) #[] lb) := by simp [dat]
  have c1 : (w.alloc (.cells (dat g lb sf sb) 59)).cell? ⟨w.heap.size, 1, none⟩ = some (.func (.func sf) #[] sb) := by simp [dat]
  have hst := SW.start hH1
  have hblk1 : blk < (w.alloc (.cells (dat g lb sf sb) 59)).heap.size := by simp; omega
  have hcall : ∀ (wr : World) (dk : Array Nat), SW (eI nn) (w.alloc (.cells (dat g lb sf sb) 59)) blk off dk wr → dk.size = d.size → ∀ p q n : Nat, p + n ≤ q → q + n ≤ d.size →
      Calls Try.prog 51 #[.agg (dat g lb sf sb), .int .i64 p, .int .i64 q, .int .i64 n] wr fun e w' => e = .returned (.tuple #[]) ∧ ∃ d', SwR p q n dk d' ∧ SW (eI nn) (w.alloc (.cells (dat g lb sf sb) 59)) blk off d' w' := fun wr dk hS hz p q n h1 h2 => by
    refine (swapRange_w g lb sf sb blk off p q n dk wr (by rw [hz]; exact hswap) (hS.holds hblk1 hH1 hz) (hS.lt hblk1) h1 (by omega) (by omega)).mono ?_
    rintro e w' ⟨he, d', hR, h2⟩
    exact ⟨he, d', hR, sw_call hS h2 hblk1 hR.1⟩
  go_enter Try.func50, Try.ntmps50
  go_wp2
  generalize hW : w.alloc (.cells (dat g lb sf sb) 59) = W at hH1 c0 c1 hst hblk1 hcall ⊢
  go_loopw [8, 9] (fun i j wr => ∃ (p q : Nat) (dk : Array Nat), i = .int .i64 p ∧ j = .int .i64 q ∧ 1 ≤ p ∧ 1 ≤ q ∧ p ≤ m - a ∧ q ≤ b - m ∧ RotL a m b p q d dk ∧ SW (eI nn) W blk off dk wr) (fun i j _ => (intOf i).toNat + (intOf j).toNat)
  case atStart => exact ⟨m - a, b - m, d, by congr 1; omega, by congr 1; omega, by omega, by omega, Nat.le_refl _, Nat.le_refl _, RotL.start (by omega) (by omega) d, hst⟩
  case round =>
    obtain ⟨p, q, dk, rfl, rfl, hp, hq, hpm, hqm, hR, hS⟩ := hrel
    have hc0 : wr.cell? ⟨w.heap.size, 0, none⟩ = some (.func (.func g) #[] lb) := by
      subst hW
      exact sw_box hS hblk 0 c0
    have hc1 : wr.cell? ⟨w.heap.size, 1, none⟩ = some (.func (.func sf) #[] sb) := by
      subst hW
      exact sw_box hS hblk 1 c1
    have hz := hR.1
    by_cases hne : p = q
    · subst hne
      have hc := hcall wr dk hS hz (m - p) m p (by omega) (by omega)
      rw [show (((m - p : Nat) : Int)) = (m : Int) - p by omega] at hc
      go_wp2_with (go_at_call 51; refine hc.mono ?_; rintro e w1 ⟨rfl, d', hX, hS'⟩)
      go_end0
      have h3 := hR.more hpm hqm (by omega) (by omega) (Nat.le_refl _) hX
      rw [Nat.sub_self] at h3
      exact ⟨rfl, d', h3.done hqm (by omega) (by omega), by subst hW; exact sw_up hS' hblk⟩
    · rcases Nat.lt_or_ge q p with hlt | hge
      · have hc := hcall wr dk hS hz (m - p) m q (by omega) (by omega)
        rw [show (((m - p : Nat) : Int)) = (m : Int) - p by omega] at hc
        go_wp2_with (go_at_call 51; refine hc.mono ?_; rintro e w1 ⟨rfl, d', hX, hS'⟩)
        go_roundw
        case rel => exact ⟨p - q, q, d', by congr 1; omega, rfl, by omega, hq, by omega, hqm, hR.more hpm hqm (by omega) (by omega) (by omega) hX, hS'⟩
        case measure => simp [intOf]; omega
      · have hc := hcall wr dk hS hz (m - p) (m + q - p) p (by omega) (by omega)
        rw [show (((m - p : Nat) : Int)) = (m : Int) - p by omega, show (((m + q - p : Nat) : Int)) = (m : Int) + q - p by omega] at hc
        go_wp2_with (go_at_call 51; refine hc.mono ?_; rintro e w1 ⟨rfl, d', hX, hS'⟩)
        go_roundw
        case rel => exact ⟨p, q - p, d', rfl, by congr 1; omega, hp, by omega, hpm, by omega, hR.less hpm hqm (by omega) (by omega) (by omega) hX, hS'⟩
        case measure => simp [intOf]; omega

end Go.Proofs.Ytfijgegegfpfkaa
