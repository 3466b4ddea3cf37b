/- sort.SliceStable walked: up to 40 elements. -/
import Derived.Test.YtfijgegegfpfkaaSymN
import Derived.Test.YtfijgegegfpfkaaFew
namespace Go.Proofs.Ytfijgegegfpfkaa
open Go.RowKit Go.Shelf Go.Lib Go.Sort
set_option linter.unusedVariables false
set_option linter.unusedSimpArgs false
variable {nn : Nat}

theorem ins_inner_size (lt : Nat → Nat → Bool) (a : Nat) : ∀ (j : Nat) (d : Array Nat), (Sort.insInner lt a j d).size = d.size
  | 0, d => rfl
  | j + 1, d => by
    unfold Sort.insInner
    split
    · rw [ins_inner_size lt a j, Sort.swp_size]
    · rfl
theorem ins_outer_size (lt : Nat → Nat → Bool) (a b : Nat) : ∀ (n i : Nat) (d : Array Nat), b - i = n → (Sort.insOuter lt a b i d).size = d.size
  | 0, i, d, hn => by rw [Sort.insOuter, if_neg (by omega)]
  | n + 1, i, d, hn => by rw [Sort.insOuter, if_pos (by omega), ins_outer_size lt a b n (i + 1) _ (by omega), ins_inner_size]
theorem ins_size (lt : Nat → Nat → Bool) (d : Array Nat) (a b : Nat) : (Sort.insertionSort lt d a b).size = d.size := by
  unfold Sort.insertionSort
  exact ins_outer_size lt a b _ _ _ rfl
theorem sorted_halves {key : Nat → Int} {d d1 d2 : Array Nat} {k n : Nat} (hk : k ≤ n) (hn : n = d.size) (hF : ∀ t u, t < u → u < d.size → d[t]! < d[u]!) (m1 : Merged key 0 k d d1) (m2 : Merged key k n d1 d2) : Srt key d2 0 k ∧ Srt key d2 k n ∧ LR d2 0 k n ∧ PermIn 0 n d d2 := by
  obtain ⟨p1, s1⟩ := m1
  obtain ⟨p2, s2⟩ := m2
  have z1 := p1.1
  refine ⟨s1.congr fun i h1 h2 => p2.2.1 i (.inl h2), s2, fun i j h1 h2 h3 h4 => ?_, permIn_trans _ _ _ 0 n (permIn_mono _ _ 0 k 0 n (Nat.le_refl _) hk (by omega) p1) (permIn_mono _ _ k n 0 n (Nat.zero_le _) (Nat.le_refl _) (by omega) p2)⟩
  rw [p2.2.1 i (.inl h2)]
  refine permIn_all d1 d2 k n (fun y => d1[i]! < y) (by omega) p2 (fun j h3 h4 => ?_) j h3 h4
  rw [p1.2.1 j (.inr h3)]
  exact permIn_all d d1 0 k (fun x => x < d[j]!) (by omega) p1 (fun i h1 h2 => hF i j (by omega) (by omega)) i h1 h2

set_option maxRecDepth 100000 in
set_option maxHeartbeats 4000000 in
theorem stable_w (key : Nat → Int) (g : Nat) (lb : Array Value) (sf : Nat) (sb : Array Value) (blk off : Nat) (d : Array Nat) (w : World) (eg : ∀ args w, (callFunc g args).run Try.prog w = .ok (.enter g args) w) (hless : LessReads Try.prog g lb (eI nn) (gtB key) blk off d.size w) (hswap : SwapSwaps Try.prog sf sb (eI nn) blk off d.size)
    (hH : Holds (eI nn) w blk off d) (hblk : blk < w.heap.size) (h20 : 20 < d.size) (h40 : d.size ≤ 40) (hF : ∀ t u, t < u → u < d.size → d[t]! < d[u]!) :
    Calls Try.prog 33 #[.agg (dat g lb sf sb), .int .i64 d.size] w fun e w' => e = .returned (.tuple #[]) ∧ ∃ d', Merged key 0 d.size d d' ∧ SW (eI nn) w blk off d' w' := by
  have hH1 := holds_alloc hblk hH (.cells (dat g lb sf sb) 59)
  have hL1 := less_alloc hless hblk (.cells (dat g lb sf sb) 59)
  have c0 : (w.alloc (.cells (dat g lb sf sb) 59)).cell? ⟨w.heap.size, 0, none⟩ = some (.func (.func g) #[] lb) := by simp [dat]
  have c1 : (w.alloc (.cells (dat g lb sf sb) 59)).cell? ⟨w.heap.size, 1, none⟩ = some (.func (.func sf) #[] sb) := by simp [dat]
  have hst := SW.start hH1
  have hblk1 : blk < (w.alloc (.cells (dat g lb sf sb) 59)).heap.size := by simp; omega
  have hins : ∀ (wr : World) (dk : Array Nat), SW (eI nn) (w.alloc (.cells (dat g lb sf sb) 59)) blk off dk wr → dk.size = d.size → ∀ p q : Nat, p ≤ q → q ≤ d.size →
      Calls Try.prog 47 #[.agg (dat g lb sf sb), .int .i64 p, .int .i64 q] wr fun e w' => e = .returned (.tuple #[]) ∧ ∃ d', d' = Sort.insertionSort (gtB key) dk p q ∧ d'.size = d.size ∧ SW (eI nn) (w.alloc (.cells (dat g lb sf sb) 59)) blk off d' w' := fun wr dk hS hz p q h1 h2 => by
    refine (Try.insertionSort_func_w (eI nn) (gtB key) g lb sf sb blk off p q dk wr eg (by rw [hz]; exact hS.lessReads hL1 hblk1 hz) (by rw [hz]; exact hswap) (hS.holds hblk1 hH1 hz) (hS.lt hblk1) h1 (by omega) (by omega)).mono ?_
    rintro e w' ⟨he, n, os, rfl⟩
    have hz2 : (Sort.insertionSort (gtB key) dk p q).size = d.size := by rw [ins_size]; exact hz
    exact ⟨he, _, rfl, hz2, hS.on hblk1 n _ os (by omega)⟩
  have hmer : ∀ (wr : World) (dk : Array Nat), SW (eI nn) (w.alloc (.cells (dat g lb sf sb) 59)) blk off dk wr → dk.size = d.size → ∀ m : Nat, 0 < m → m < d.size → Srt key dk 0 m → Srt key dk m d.size → LR dk 0 m d.size →
      Calls Try.prog 48 #[.agg (dat g lb sf sb), .int .i64 (0 : Nat), .int .i64 m, .int .i64 d.size] wr fun e w' => e = .returned (.tuple #[]) ∧ ∃ d', Merged key 0 d.size dk d' ∧ SW (eI nn) (w.alloc (.cells (dat g lb sf sb) 59)) blk off d' w' := fun wr dk hS hz m h1 h2 h5 h6 h7 => by
    refine (symMerge_w key g lb sf sb blk off d.size eg hswap (by omega) d.size 0 m d.size dk wr (by omega) h1 h2 (by omega) hz (by rw [hz]; exact hS.lessReads hL1 hblk1 hz) (hS.holds hblk1 hH1 hz) (hS.lt hblk1) h5 h6 h7).mono ?_
    rintro e w' ⟨he, d', hR, h2⟩
    exact ⟨he, d', hR, sw_call hS h2 hblk1 hR.1.1⟩
  have Hins := Lib.hid hins
  have Hmer := Lib.hid hmer
  have HF := Lib.hid hF
  have M1 := Lib.hid (srt_ins (key := key) d 0 20 (by omega) (by omega) fun t u _ h2 h3 => hF t u h2 (by omega))
  have M2 : Hid (Merged key 20 d.size (Sort.insertionSort (gtB key) d 0 20) (Sort.insertionSort (gtB key) (Sort.insertionSort (gtB key) d 0 20) 20 d.size)) := by
    refine srt_ins _ 20 d.size (by rw [ins_size]; exact Nat.le_refl _) (by omega) fun t u h1 h2 h3 => ?_
    rw [M1.out.1.2.1 t (.inr h1), M1.out.1.2.1 u (.inr (by omega))]
    exact hF t u h2 h3
  have hS0 := Lib.hid (sorted_halves (by omega) rfl hF M1.out M2.out)
  generalize hd1 : Sort.insertionSort (gtB key) d 0 20 = d1 at M1 M2 hS0
  generalize hd2 : Sort.insertionSort (gtB key) d1 20 d.size = d2 at M2 hS0
  have hz1 : d1.size = d.size := M1.out.1.1
  have hz2 : d2.size = d.size := hS0.out.2.2.2.1
  clear hless hF hins hmer
  have Hup : Hid (∀ (dk : Array Nat) (wr : World), SW (eI nn) (w.alloc (.cells (dat g lb sf sb) 59)) blk off dk wr → SW (eI nn) w blk off dk wr) := fun dk wr hS => sw_up hS hblk
  have hbx : ∀ (k : Nat) (v : Value), (w.alloc (.cells (dat g lb sf sb) 59)).cell? ⟨w.heap.size, k, none⟩ = some v → ∀ (dk : Array Nat) (wr : World), SW (eI nn) (w.alloc (.cells (dat g lb sf sb) 59)) blk off dk wr → wr.cell? ⟨w.heap.size, k, none⟩ = some v := fun k v hv dk wr hS => sw_box hS hblk k hv
  have C0 := Lib.hid (hbx 0 _ c0)
  have C1 := Lib.hid (hbx 1 _ c1)
  clear hbx
  have hi1 := Hins.out _ d hst rfl 0 20 (by omega) (by omega)
  rw [hd1, show ((0 : Nat) : Int) = 0 from rfl, show ((20 : Nat) : Int) = 20 from rfl] at hi1
  have Hn : Hid (d.size = d.size) := rfl
  generalize hn : d.size = n at h20 h40 hz1 hz2 M1 M2 hS0 hd2 Hmer ⊢
  rcases Nat.lt_or_ge n 40 with hlt | hge
  · go_enter Try.func33, Try.ntmps33
    go_wp2
    refine wp_loop_rounds 2 ?_
    rw [rounds_succ]
    go_wp2_with (go_at_call 47; refine hi1.mono ?_; rintro e w1 ⟨rfl, e1, he1, hq1, hS1⟩)
    obtain rfl : d1 = e1 := he1.symm
    have hc0 := C0.out _ _ hS1
    have hc1 := C1.out _ _ hS1
    have hi2 := Hins.out _ _ hS1 hq1 20 n (by omega) (by omega)
    rw [show ((20 : Nat) : Int) = 20 from rfl, hd2] at hi2
    rw [rounds_succ]
    go_wp2_with (go_at_call 47; refine hi2.mono ?_; rintro e w2 ⟨rfl, e2, he2, hq2, hS2⟩)
    obtain rfl : d2 = e2 := he2.symm
    clear hc0 hc1 hi1 hi2
    have hc0 := C0.out _ _ hS2
    have hc1 := C1.out _ _ hS2
    have hm := Hmer.out _ _ hS2 (by omega) 20 (by omega) (by omega) hS0.out.1 hS0.out.2.1 hS0.out.2.2.1
    rw [show ((0 : Nat) : Int) = 0 from rfl, show ((20 : Nat) : Int) = 20 from rfl] at hm
    refine wp_loop_rounds 2 ?_
    rw [rounds_succ]
    go_wp2
    refine wp_loop_rounds 1 ?_
    rw [rounds_succ]
    go_wp2_with (go_at_call 48; refine hm.mono ?_; rintro e w3 ⟨rfl, d', hX, hS'⟩)
    rw [rounds_succ]
    go_wp2
    go_end0
    exact ⟨rfl, d', ⟨permIn_trans _ _ _ 0 n hS0.out.2.2.2 hX.1, hX.2⟩, Hup.out _ _ hS'⟩
  · obtain rfl : n = 40 := by omega
    go_enter Try.func33, Try.ntmps33
    go_wp2
    refine wp_loop_rounds 3 ?_
    rw [rounds_succ]
    go_wp2_with (go_at_call 47; refine hi1.mono ?_; rintro e w1 ⟨rfl, e1, he1, hq1, hS1⟩)
    obtain rfl : d1 = e1 := he1.symm
    have hc0 := C0.out _ _ hS1
    have hc1 := C1.out _ _ hS1
    have hi2 := Hins.out _ _ hS1 hq1 20 40 (by omega) (by omega)
    rw [show ((20 : Nat) : Int) = 20 from rfl, show ((40 : Nat) : Int) = 40 from rfl, hd2] at hi2
    rw [rounds_succ]
    go_wp2_with (go_at_call 47; refine hi2.mono ?_; rintro e w2 ⟨rfl, e2, he2, hq2, hS2⟩)
    obtain rfl : d2 = e2 := he2.symm
    clear hc0 hc1 hi1 hi2
    have hc0 := C0.out _ _ hS2
    have hc1 := C1.out _ _ hS2
    have hi3 : Calls Try.prog 47 #[.agg (dat g lb sf sb), .int .i64 40, .int .i64 40] w2 fun e w' => e = .returned (.tuple #[]) ∧ SW (eI nn) (w.alloc (.cells (dat g lb sf sb) 59)) blk off d2 w' := by
      refine (Try.insertionSort_func_none (.func g) #[] lb sf sb 40 40 (by omega) (by omega) w2).mono ?_
      rintro e w' ⟨he, hw⟩
      exact ⟨he, by rw [hw]; exact hS2.alloc _⟩
    rw [rounds_succ]
    go_wp2_with (go_at_call 47; refine hi3.mono ?_; rintro e w3 ⟨rfl, hS3⟩)
    clear hc0 hc1 hi3
    have hc0 := C0.out _ _ hS3
    have hc1 := C1.out _ _ hS3
    have hm := Hmer.out _ _ hS3 (by omega) 20 (by omega) (by omega) hS0.out.1 hS0.out.2.1 hS0.out.2.2.1
    rw [show ((0 : Nat) : Int) = 0 from rfl, show ((20 : Nat) : Int) = 20 from rfl, show ((40 : Nat) : Int) = 40 from rfl] at hm
    refine wp_loop_rounds 2 ?_
    rw [rounds_succ]
    go_wp2
    refine wp_loop_rounds 2 ?_
    rw [rounds_succ]
    go_wp2_with (go_at_call 48; refine hm.mono ?_; rintro e w3 ⟨rfl, d', hX, hS'⟩)
    rw [rounds_succ]
    go_wp2
    rw [rounds_succ]
    go_wp2
    go_end0
    exact ⟨rfl, d', ⟨permIn_trans _ _ _ 0 40 hS0.out.2.2.2 hX.1, hX.2⟩, Hup.out _ _ hS'⟩

end Go.Proofs.Ytfijgegegfpfkaa
