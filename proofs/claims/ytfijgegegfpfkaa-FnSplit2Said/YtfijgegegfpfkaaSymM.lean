/- sort.SliceStable's merging half walked: the merge. -/
import Derived.Test.YtfijgegegfpfkaaSymW
import Derived.Shelf.GgSortMore.Stable
namespace Go.Proofs.Ytfijgegegfpfkaa
open Go.RowKit Go.Shelf Go.Lib Go.Sort
set_option linter.unusedVariables false
set_option linter.unusedSimpArgs false
variable {nn : Nat}

theorem map_shift (d1 d : Array Nat) (s t k : Nat) (h : ∀ i, i < k → d1[s + i]! = d[t + i]!) : (List.range' s k).map (fun i => d1[i]!) = (List.range' t k).map (fun i => d[i]!) := by
  apply List.ext_getElem
  · simp
  · intro i h1 h2
    simp only [List.getElem_map, List.getElem_range', Nat.one_mul]
    simp only [List.length_map, List.length_range'] at h1
    exact h i h1
theorem range_split (a k l : Nat) : List.range' a (k + l) = List.range' a k ++ List.range' (a + k) l := by
  rw [List.range'_append_1]
theorem Rot.perm {a st m en b : Nat} {d d1 : Array Nat} (h : Rot st m en d d1) (h1 : a ≤ st) (h2 : st ≤ m) (h3 : m ≤ en) (h4 : en ≤ b) (hb : b ≤ d.size) : Sort.PermIn a b d d1 := by
  obtain ⟨hz, r1, r2⟩ := h
  refine ⟨hz, fun i hi => r2 i (by omega), ?_⟩
  rw [Sort.extract_toList d1 a b (by omega), Sort.extract_toList d a b hb]
  have e1 : List.range' a (b - a) = List.range' a (st - a) ++ (List.range' st (en - m) ++ (List.range' (st + (en - m)) (m - st) ++ List.range' en (b - en))) := by
    rw [show b - a = (st - a) + ((en - m) + ((m - st) + (b - en))) by omega, range_split, range_split, range_split, show a + (st - a) = st by omega, show st + (en - m) + (m - st) = en by omega]
  have e2 : List.range' a (b - a) = List.range' a (st - a) ++ (List.range' st (m - st) ++ (List.range' m (en - m) ++ List.range' en (b - en))) := by
    rw [show b - a = (st - a) + ((m - st) + ((en - m) + (b - en))) by omega, range_split, range_split, range_split, show a + (st - a) = st by omega, show st + (m - st) = m by omega, show m + (en - m) = en by omega]
  have g1 : (List.range' a (b - a)).map (fun i => d1[i]!) = (List.range' a (st - a)).map (fun i => d[i]!) ++ ((List.range' m (en - m)).map (fun i => d[i]!) ++ ((List.range' st (m - st)).map (fun i => d[i]!) ++ (List.range' en (b - en)).map (fun i => d[i]!))) := by
    rw [e1, List.map_append, List.map_append, List.map_append]
    congr 1
    · exact map_shift d1 d a a _ fun i hi => r2 _ (by omega)
    · congr 1
      · refine map_shift d1 d st m _ fun i hi => ?_
        rw [r1 _ (by omega) (by omega)]
        congr 1
        unfold sig
        rw [if_pos (by omega)]
        omega
      · congr 1
        · refine map_shift d1 d _ st _ fun i hi => ?_
          rw [r1 _ (by omega) (by omega)]
          congr 1
          unfold sig
          rw [if_neg (by omega)]
          omega
        · exact map_shift d1 d en en _ fun i hi => r2 _ (by omega)
  rw [g1, e2, List.map_append, List.map_append, List.map_append]
  refine List.Perm.append_left _ ?_
  rw [← List.append_assoc, ← List.append_assoc]
  exact List.Perm.append_right _ List.perm_append_comm

set_option maxRecDepth 100000 in
set_option maxHeartbeats 1600000 in
theorem symFirst_w (key : Nat → Int) (g : Nat) (lb : Array Value) (sf : Nat) (sb : Array Value) (blk off a m b : Nat) (d : Array Nat) (w : World) (eg : ∀ args w, (callFunc g args).run Try.prog w = .ok (.enter g args) w) (hless : LessReads Try.prog g lb (eI nn) (gtB key) blk off d.size w) (hswap : SwapSwaps Try.prog sf sb (eI nn) blk off d.size)
    (hH : Holds (eI nn) w blk off d) (hblk : blk < w.heap.size) (hma : a + 1 ≤ m) (hmb : m ≤ a + 1) (hab : m < b) (hb : b ≤ d.size) (hsz : d.size < 1048576) (h2 : Srt key d m b) (hlr : LR d a m b) :
    Calls Try.prog 48 #[.agg (dat g lb sf sb), .int .i64 a, .int .i64 m, .int .i64 b] w fun e w' => e = .returned (.tuple #[]) ∧ ∃ d', Merged key a b d d' ∧ SW (eI nn) w blk off d' w' := by
  have hH1 := holds_alloc hblk hH (.cells (dat g lb sf sb) 59)
  have hL1 := less_alloc hless hblk (.cells (dat g lb sf sb) 59)
  have c0 : (w.alloc (.cells (dat g lb sf sb) 59)).cell? ⟨w.heap.size, 0, none⟩ = some (.func (.func g) #[] lb) := by simp [dat]
  have c1 : (w.alloc (.cells (dat g lb sf sb) 59)).cell? ⟨w.heap.size, 1, none⟩ = some (.func (.func sf) #[] sb) := by simp [dat]
  have hst := SW.start hH1
  have hblk1 : blk < (w.alloc (.cells (dat g lb sf sb) 59)).heap.size := by simp; omega
  have H2 := Lib.hid h2
  have hbt : ((m : Int) - (a : Int) == 1) = true := by simp; omega
  have HL := Lib.hid hlr
  clear h2 hlr hless
  go_enter Try.func48, Try.ntmps48
  go_wp2
  generalize hW : w.alloc (.cells (dat g lb sf sb) 59) = W at hH1 hL1 c0 c1 hst hblk1 ⊢
  go_loopw [8, 9] (fun i j wr => ∃ (p q : Nat), i = .int .i64 p ∧ j = .int .i64 q ∧ m ≤ p ∧ p ≤ q ∧ q ≤ b ∧ Hid (∀ t, m ≤ t → t < p → TB key d[t]! d[a]! = true) ∧ Hid (∀ t, q ≤ t → t < b → TB key d[a]! d[t]! = true) ∧ SW (eI nn) W blk off d wr) (fun i j _ => (intOf j).toNat - (intOf i).toNat)
  case atStart => exact ⟨m, b, rfl, rfl, Nat.le_refl _, by omega, Nat.le_refl _, (by intro t h3 h4; omega), (by intro t h3 h4; omega), hst⟩
  case round =>
    obtain ⟨p, q, rfl, rfl, hp, hpq, hq, hlo, hhi, hS⟩ := hrel
    have hc0 : wr.cell? ⟨w.heap.size, 0, none⟩ = some (.func (.func g) #[] lb) := by
      subst hW
      exact sw_box hS hblk 0 c0
    have hc1 : wr.cell? ⟨w.heap.size, 1, none⟩ = some (.func (.func sf) #[] sb) := by
      subst hW
      exact sw_box hS hblk 1 c1
    by_cases hlt : p < q
    · have hl := hS.less hL1 rfl ((p + q) / 2) a (by omega) (by omega)
      rw [show ((((p + q) / 2 : Nat) : Int)) = ((p : Int) + q) / 2 by omega] at hl
      cases hlv : gtB key d[(p + q) / 2]! d[a]! with
      | true =>
        rw [hlv] at hl
        go_wp2_with (go_at_fn g; refine hl.mono ?_; rintro e w' ⟨rfl, n, rfl⟩)
        go_roundw
        case rel =>
          refine ⟨(p + q) / 2 + 1, q, rfl, rfl, by omega, by omega, hq, ?_, hhi, hS.drewN n⟩
          intro t h3 h4
          have h0 := gt_yes (HL.out a ((p + q) / 2) (Nat.le_refl _) (by omega) (by omega) (by omega)) hlv
          exact H2.out.le h3 (by omega) (by omega) h0
        case measure => simp [intOf]; omega
      | false =>
        rw [hlv] at hl
        go_wp2_with (go_at_fn g; refine hl.mono ?_; rintro e w' ⟨rfl, n, rfl⟩)
        go_roundw
        case rel =>
          refine ⟨p, (p + q) / 2, rfl, rfl, hp, by omega, by omega, hlo, ?_, hS.drewN n⟩
          intro t h3 h4
          have h0 := gt_no (HL.out a ((p + q) / 2) (Nat.le_refl _) (by omega) (by omega) (by omega)) hlv
          exact H2.out.ge (i := (p + q) / 2) (by omega) h3 h4 h0
        case measure => simp [intOf]; omega
    · obtain rfl : p = q := by omega
      go_wp2
      obtain ⟨wo, rfl⟩ : ∃ wo : World, wo = wr := ⟨_, rfl⟩
      go_loopw [11] (fun kk wr => ∃ (k : Nat) (dk : Array Nat), kk = .int .i64 k ∧ a ≤ k ∧ k ≤ p - 1 ∧ Bub a k d dk ∧ SW (eI nn) W blk off dk wr) (fun kk _ => p - (intOf kk).toNat)
      case atStart => exact ⟨a, d, rfl, Nat.le_refl _, by omega, Bub.start a d, hS⟩
      case round =>
        obtain ⟨k, dk, rfl, hak, hk, hB, hS2⟩ := hrel
        have hd0 : wr.cell? ⟨w.heap.size, 0, none⟩ = some (.func (.func g) #[] lb) := by
          subst hW
          exact sw_box hS2 hblk 0 c0
        have hd1 : wr.cell? ⟨w.heap.size, 1, none⟩ = some (.func (.func sf) #[] sb) := by
          subst hW
          exact sw_box hS2 hblk 1 c1
        have hz := hB.1
        by_cases hlt2 : k < p - 1
        · have hh := hS2.holds hblk1 hH1 hz
          have hs := hswap wr dk hh hz k (k + 1) (by omega) (by omega)
          have hS' := hS2.swap hblk1 k (k + 1) (by omega) (by omega)
          have hB' := hB.step hak (by omega)
          rw [show (((k + 1 : Nat) : Int)) = (k : Int) + 1 by omega] at hs
          go_wp2
          go_roundw
          case rel => exact ⟨k + 1, _, by go_num, by omega, by omega, hB', hS'⟩
          case measure => simp [intOf]; omega
        · obtain rfl : k = p - 1 := by omega
          go_wp2
          (try simp only [Exit.inBlock, Exit.then])
          refine bodyPost_ret (results_none rfl _ _ _) rfl ?_
          obtain rfl : m = a + 1 := by omega
          exact ⟨rfl, dk, merged_first H2.out hp hq hb hlo.out hhi.out hB, by subst hW; exact sw_up hS2 hblk⟩

set_option maxRecDepth 100000 in
set_option maxHeartbeats 1600000 in
theorem symLast_w (key : Nat → Int) (g : Nat) (lb : Array Value) (sf : Nat) (sb : Array Value) (blk off a m b : Nat) (d : Array Nat) (w : World) (eg : ∀ args w, (callFunc g args).run Try.prog w = .ok (.enter g args) w) (hless : LessReads Try.prog g lb (eI nn) (gtB key) blk off d.size w) (hswap : SwapSwaps Try.prog sf sb (eI nn) blk off d.size)
    (hH : Holds (eI nn) w blk off d) (hblk : blk < w.heap.size) (ham : a + 2 ≤ m) (hmb : m + 1 ≤ b) (hbm : b ≤ m + 1) (hb : b ≤ d.size) (hsz : d.size < 1048576) (h1 : Srt key d a m) (hlr : LR d a m b) :
    Calls Try.prog 48 #[.agg (dat g lb sf sb), .int .i64 a, .int .i64 m, .int .i64 b] w fun e w' => e = .returned (.tuple #[]) ∧ ∃ d', Merged key a b d d' ∧ SW (eI nn) w blk off d' w' := by
  have hH1 := holds_alloc hblk hH (.cells (dat g lb sf sb) 59)
  have hL1 := less_alloc hless hblk (.cells (dat g lb sf sb) 59)
  have c0 : (w.alloc (.cells (dat g lb sf sb) 59)).cell? ⟨w.heap.size, 0, none⟩ = some (.func (.func g) #[] lb) := by simp [dat]
  have c1 : (w.alloc (.cells (dat g lb sf sb) 59)).cell? ⟨w.heap.size, 1, none⟩ = some (.func (.func sf) #[] sb) := by simp [dat]
  have hst := SW.start hH1
  have hblk1 : blk < (w.alloc (.cells (dat g lb sf sb) 59)).heap.size := by simp; omega
  have H1 := Lib.hid h1
  have HL := Lib.hid hlr
  clear h1 hlr hless
  go_enter Try.func48, Try.ntmps48
  go_wp2
  generalize ((m : Int) - (a : Int) == 1) = x1
  generalize ((b : Int) - (m : Int) == 1) = x2
  generalize hW : w.alloc (.cells (dat g lb sf sb) 59) = W at hH1 hL1 c0 c1 hst hblk1 ⊢
  go_loopw [12, 13] (fun i j wr => ∃ (p q : Nat), i = .int .i64 p ∧ j = .int .i64 q ∧ a ≤ p ∧ p ≤ q ∧ q ≤ m ∧ Hid (∀ t, a ≤ t → t < p → TB key d[t]! d[m]! = true) ∧ Hid (∀ t, q ≤ t → t < m → TB key d[m]! d[t]! = true) ∧ SW (eI nn) W blk off d wr) (fun i j _ => (intOf j).toNat - (intOf i).toNat)
  case atStart => exact ⟨a, m, rfl, rfl, Nat.le_refl _, by omega, Nat.le_refl _, (by intro t h3 h4; omega), (by intro t h3 h4; omega), hst⟩
  case round =>
    obtain ⟨p, q, rfl, rfl, hp, hpq, hq, hlo, hhi, hS⟩ := hrel
    have hc0 : wr.cell? ⟨w.heap.size, 0, none⟩ = some (.func (.func g) #[] lb) := by
      subst hW
      exact sw_box hS hblk 0 c0
    have hc1 : wr.cell? ⟨w.heap.size, 1, none⟩ = some (.func (.func sf) #[] sb) := by
      subst hW
      exact sw_box hS hblk 1 c1
    by_cases hlt : p < q
    · have hl := hS.less hL1 rfl m ((p + q) / 2) (by omega) (by omega)
      rw [show ((((p + q) / 2 : Nat) : Int)) = ((p : Int) + q) / 2 by omega] at hl
      cases hlv : gtB key d[m]! d[(p + q) / 2]! with
      | true =>
        rw [hlv] at hl
        go_wp2_with (go_at_fn g; refine hl.mono ?_; rintro e w' ⟨rfl, n, rfl⟩)
        go_roundw
        case rel =>
          refine ⟨p, (p + q) / 2, rfl, rfl, hp, by omega, by omega, hlo, ?_, hS.drewN n⟩
          intro t h3 h4
          have h0 := gt_yes (HL.out ((p + q) / 2) m (by omega) (by omega) (Nat.le_refl _) (by omega)) hlv
          exact H1.out.ge (i := (p + q) / 2) (by omega) h3 h4 h0
        case measure => simp [intOf]; omega
      | false =>
        rw [hlv] at hl
        go_wp2_with (go_at_fn g; refine hl.mono ?_; rintro e w' ⟨rfl, n, rfl⟩)
        go_roundw
        case rel =>
          refine ⟨(p + q) / 2 + 1, q, rfl, rfl, by omega, by omega, hq, ?_, hhi, hS.drewN n⟩
          intro t h3 h4
          have h0 := gt_no (HL.out ((p + q) / 2) m (by omega) (by omega) (Nat.le_refl _) (by omega)) hlv
          exact H1.out.le h3 (by omega) (by omega) h0
        case measure => simp [intOf]; omega
    · obtain rfl : p = q := by omega
      go_wp2
      obtain ⟨wo, rfl⟩ : ∃ wo : World, wo = wr := ⟨_, rfl⟩
      go_loopw [15] (fun kk wr => ∃ (k : Nat) (dk : Array Nat), kk = .int .i64 k ∧ p ≤ k ∧ k ≤ m ∧ Bud k m d dk ∧ SW (eI nn) W blk off dk wr) (fun kk _ => (intOf kk).toNat)
      case atStart => exact ⟨m, d, rfl, hq, Nat.le_refl _, Bud.start m d, hS⟩
      case round =>
        obtain ⟨k, dk, rfl, hpk, hk, hB, hS2⟩ := hrel
        have hd0 : wr.cell? ⟨w.heap.size, 0, none⟩ = some (.func (.func g) #[] lb) := by
          subst hW
          exact sw_box hS2 hblk 0 c0
        have hd1 : wr.cell? ⟨w.heap.size, 1, none⟩ = some (.func (.func sf) #[] sb) := by
          subst hW
          exact sw_box hS2 hblk 1 c1
        have hz := hB.1
        by_cases hlt2 : p < k
        · obtain ⟨k, rfl⟩ : ∃ k', k = k' + 1 := ⟨k - 1, by omega⟩
          have hh := hS2.holds hblk1 hH1 hz
          have hs := hswap wr dk hh hz (k + 1) k (by omega) (by omega)
          have hS' := hS2.swap hblk1 (k + 1) k (by omega) (by omega)
          have hB' := hB.step (by omega) (by omega)
          rw [show ((k : Int)) = ((k + 1 : Nat) : Int) - 1 by omega] at hs
          generalize hk1 : k + 1 = k1 at *
          go_wp2
          go_roundw
          case rel => exact ⟨k, _, by congr 1; omega, by omega, by omega, hB', hS'⟩
          case measure => simp [intOf]; omega
        · obtain rfl : k = p := by omega
          go_wp2
          (try simp only [Exit.inBlock, Exit.then])
          refine bodyPost_ret (results_none rfl _ _ _) rfl ?_
          obtain rfl : b = m + 1 := by omega
          exact ⟨rfl, dk, merged_last H1.out hp hq (by omega) hlo.out hhi.out hB, by subst hW; exact sw_up hS2 hblk⟩

end Go.Proofs.Ytfijgegegfpfkaa
