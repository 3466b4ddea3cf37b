/- sort.SliceStable's merging half walked: the merge, the general case. -/
import Derived.Test.YtfijgegegfpfkaaSymM
import Derived.Deep.CutBlock
import Derived.Deep.DeepCutAuto
namespace Go.Proofs.Ytfijgegegfpfkaa
open Go.RowKit Go.Shelf Go.Lib Go.Sort
set_option linter.unusedVariables false
set_option linter.unusedSimpArgs false
variable {nn : Nat}

set_option maxRecDepth 100000 in
set_option maxHeartbeats 4000000 in
theorem symMid_w (key : Nat → Int) (g : Nat) (lb : Array Value) (sf : Nat) (sb : Array Value) (blk off a m b : Nat) (d : Array Nat) (w : World) (eg : ∀ args w, (callFunc g args).run Try.prog w = .ok (.enter g args) w) (hless : LessReads Try.prog g lb (eI nn) (gtB key) blk off d.size w) (hswap : SwapSwaps Try.prog sf sb (eI nn) blk off d.size)
    (hH : Holds (eI nn) w blk off d) (hblk : blk < w.heap.size) (ham : a + 2 ≤ m) (hmb : m + 2 ≤ b) (hb : b ≤ d.size) (hsz : d.size < 1048576) (h1 : Srt key d a m) (h2 : Srt key d m b) (hlr : LR d a m b)
    (ih : ∀ (a' m' b' : Nat) (d' : Array Nat) (w' : World), b' - a' < b - a → a' < m' → m' < b' → b' ≤ d'.size → d'.size = d.size → LessReads Try.prog g lb (eI nn) (gtB key) blk off d'.size w' → Holds (eI nn) w' blk off d' → blk < w'.heap.size → Srt key d' a' m' → Srt key d' m' b' → LR d' a' m' b' →
      Calls Try.prog 48 #[.agg (dat g lb sf sb), .int .i64 a', .int .i64 m', .int .i64 b'] w' fun e w'' => e = .returned (.tuple #[]) ∧ ∃ d'', Merged key a' b' d' d'' ∧ SW (eI nn) w' blk off d'' w'') :
    Calls Try.prog 48 #[.agg (dat g lb sf sb), .int .i64 a, .int .i64 m, .int .i64 b] w fun e w' => e = .returned (.tuple #[]) ∧ ∃ d', Merged key a b d d' ∧ SW (eI nn) w blk off d' w' := by
  have hH1 := holds_alloc hblk hH (.cells (dat g lb sf sb) 59)
  have hL1 := less_alloc hless hblk (.cells (dat g lb sf sb) 59)
  have c0 : (w.alloc (.cells (dat g lb sf sb) 59)).cell? ⟨w.heap.size, 0, none⟩ = some (.func (.func g) #[] lb) := by simp [dat]
  have c1 : (w.alloc (.cells (dat g lb sf sb) 59)).cell? ⟨w.heap.size, 1, none⟩ = some (.func (.func sf) #[] sb) := by simp [dat]
  have hst := SW.start hH1
  have hblk1 : blk < (w.alloc (.cells (dat g lb sf sb) 59)).heap.size := by simp; omega
  have H1 := Lib.hid h1
  have H2 := Lib.hid h2
  have HL := Lib.hid hlr
  have hrot : ∀ (wr : World) (dk : Array Nat), SW (eI nn) (w.alloc (.cells (dat g lb sf sb) 59)) blk off dk wr → dk.size = d.size → ∀ p q n : Nat, p < q → q < n → n ≤ d.size →
      Calls Try.prog 50 #[.agg (dat g lb sf sb), .int .i64 p, .int .i64 q, .int .i64 n] wr fun e w' => e = .returned (.tuple #[]) ∧ ∃ d', Rot p q n dk d' ∧ SW (eI nn) (w.alloc (.cells (dat g lb sf sb) 59)) blk off d' w' := fun wr dk hS hz p q n h1 h2 h3 => by
    refine (rotate_w g lb sf sb blk off p q n dk wr (by rw [hz]; exact hswap) (hS.holds hblk1 hH1 hz) (hS.lt hblk1) h1 h2 (by omega) (by omega)).mono ?_
    rintro e w' ⟨he, d', hR, h2⟩
    exact ⟨he, d', hR, sw_call hS h2 hblk1 hR.1⟩
  have hrec : ∀ (wr : World) (dk : Array Nat), SW (eI nn) (w.alloc (.cells (dat g lb sf sb) 59)) blk off dk wr → dk.size = d.size → ∀ a' m' b' : Nat, b' - a' < b - a → a' < m' → m' < b' → b' ≤ d.size → Srt key dk a' m' → Srt key dk m' b' → LR dk a' m' b' →
      Calls Try.prog 48 #[.agg (dat g lb sf sb), .int .i64 a', .int .i64 m', .int .i64 b'] wr fun e w' => e = .returned (.tuple #[]) ∧ ∃ d', Merged key a' b' dk d' ∧ SW (eI nn) (w.alloc (.cells (dat g lb sf sb) 59)) blk off d' w' := fun wr dk hS hz a' m' b' h1 h2 h3 h4 h5 h6 h7 => by
    refine (ih a' m' b' dk wr h1 h2 h3 (by omega) hz (by rw [hz]; exact hS.lessReads hL1 hblk1 hz) (hS.holds hblk1 hH1 hz) (hS.lt hblk1) h5 h6 h7).mono ?_
    rintro e w' ⟨he, d', hR, h2⟩
    exact ⟨he, d', hR, sw_call hS h2 hblk1 hR.1.1⟩
  have Hrot := Lib.hid hrot
  have Hrec := Lib.hid hrec
  clear h1 h2 hlr hless ih hrot hrec
  obtain ⟨mid, hmid⟩ : ∃ mid, mid = (a + b) / 2 := ⟨_, rfl⟩
  have hm1 : 2 * mid ≤ a + b := by omega
  have hm2 : a + b ≤ 2 * mid + 1 := by omega
  have hmi : Hid (((a : Int) + b) / 2 = (mid : Int)) := by unfold Hid; omega
  clear hmid
  go_enter Try.func48, Try.ntmps48
  go_upto_if 106 with fail
  generalize ((m : Int) - (a : Int) == 1) = x1
  generalize ((b : Int) - (m : Int) == 1) = x2
  generalize hW : w.alloc (.cells (dat g lb sf sb) 59) = W at hH1 hL1 c0 c1 hst hblk1 Hrot Hrec ⊢
  have hbx : ∀ (k : Nat) (v : Value), W.cell? ⟨w.heap.size, k, none⟩ = some v → ∀ (dk : Array Nat) (wr : World), SW (eI nn) W blk off dk wr → wr.cell? ⟨w.heap.size, k, none⟩ = some v := fun k v hv dk wr hS => by
    subst hW
    exact sw_box hS hblk k hv
  have Hup : Hid (∀ (dk : Array Nat) (wr : World), SW (eI nn) W blk off dk wr → SW (eI nn) w blk off dk wr) := fun dk wr hS => by
    subst hW
    exact sw_up hS hblk
  have C0 := Lib.hid (hbx 0 _ c0)
  have C1 := Lib.hid (hbx 1 _ c1)
  clear hbx
  go_cut [16, 17, 18, 19] (fun s16 s17 s18 s19 wx => s16 = .int .i64 mid ∧ s17 = .int .i64 ((mid : Int) + m) ∧ ∃ s0 r0 : Nat, s18 = .int .i64 s0 ∧ s19 = .int .i64 r0 ∧ Hid (Cut a m b s0 r0 (mid + m - 1)) ∧ Hid (s0 = a ∨ s0 + b = mid + m) ∧ Hid (r0 = m ∨ r0 = mid) ∧ wx = W)
  case first =>
    rw [hmi.out]
    by_cases hmm : mid < m
    · go_wp2
      go_meet
      case rel => exact ⟨rfl, rfl, mid + m - b, mid, by congr 1; omega, rfl, ⟨by omega, by omega, by omega, by omega, by omega, by omega, by omega⟩, .inr (by omega), .inr rfl, rfl⟩
    · go_wp2
      go_meet
      case rel => exact ⟨rfl, rfl, a, m, rfl, rfl, ⟨by omega, by omega, by omega, by omega, by omega, by omega, by omega⟩, .inl rfl, .inl rfl, rfl⟩
  case rest =>
    obtain ⟨rfl, rfl, s0, r0, rfl, rfl, hC, hs, hr, hwc⟩ := hcut
    obtain rfl : W = wc := hwc.symm
    have hs0 : a ≤ s0 := hC.out.as
    have hsr : s0 ≤ r0 := hC.out.sr
    have hrm : r0 ≤ m := hC.out.rm
    have hrd : r0 ≤ mid := by have := hC.out.mp; omega
    have hpb : mid + m ≤ b + s0 := by have := hC.out.pb; omega
    go_wp2
    go_loopw [18, 19] (fun i j wr => ∃ (st r : Nat), i = .int .i64 st ∧ j = .int .i64 r ∧ s0 ≤ st ∧ st ≤ r ∧ r ≤ r0 ∧ Hid (Bsy key s0 r0 (mid + m - 1) st r d) ∧ SW (eI nn) W blk off d wr) (fun i j _ => (intOf j).toNat - (intOf i).toNat)
    case atStart => exact ⟨s0, r0, rfl, rfl, Nat.le_refl _, hsr, Nat.le_refl _, Bsy.start hsr d, hst⟩
    case round =>
      obtain ⟨st, r, rfl, rfl, hst0, hstr, hrr, hB, hS⟩ := hrel
      have hc0 := C0.out d wr hS
      have hc1 := C1.out d wr hS
      by_cases hlt : st < r
      · have hl := hS.less hL1 rfl (mid + m - 1 - (st + r) / 2) ((st + r) / 2) (by omega) (by omega)
        rw [show (((mid + m - 1 - (st + r) / 2 : Nat) : Int)) = (mid : Int) + m - 1 - ((st : Int) + r) / 2 by omega, show ((((st + r) / 2 : Nat) : Int)) = ((st : Int) + r) / 2 by omega] at hl
        cases hlv : gtB key d[mid + m - 1 - (st + r) / 2]! d[(st + r) / 2]! with
        | true =>
          rw [hlv] at hl
          have hB' := Lib.hid (Bsy.left hC.out hB.out H1.out H2.out HL.out (by omega) (by omega) hlv)
          go_wp2_with (go_at_fn g; refine hl.mono ?_; rintro e w' ⟨rfl, n, rfl⟩)
          go_roundw
          case rel => exact ⟨st, (st + r) / 2, rfl, rfl, hst0, by omega, by omega, hB', hS.drewN n⟩
          case measure => simp [intOf]; omega
        | false =>
          rw [hlv] at hl
          have hB' := Lib.hid (Bsy.right hC.out hB.out H1.out H2.out HL.out (by omega) (by omega) hlv)
          go_wp2_with (go_at_fn g; refine hl.mono ?_; rintro e w' ⟨rfl, n, rfl⟩)
          go_roundw
          case rel => exact ⟨(st + r) / 2 + 1, r, rfl, rfl, by omega, by omega, hrr, hB', hS.drewN n⟩
          case measure => simp [intOf]; omega
      · obtain rfl : st = r := by omega
        obtain ⟨en, hen⟩ : ∃ en, en + st = mid + m := ⟨mid + m - st, by omega⟩
        have HEN : Hid ((mid : Int) + m - st = (en : Int)) := by unfold Hid; omega
        have hstm : st ≤ mid := by omega
        have hT := fun (d1 : Array Nat) (hR : Rot st m en d d1) => turned hC.out hB.out H1.out H2.out HL.out (by omega) hen hstm hs.out hr.out hR
        have HT := Lib.hid hT
        clear hT hs hr hC hB H1 H2 HL
        obtain ⟨wo, rfl⟩ : ∃ wo : World, wo = wr := ⟨_, rfl⟩
        go_upto_region 40 with fail
        rw [HEN.out]
        go_cut [22, 145] (fun s22 s145 wx => s22 = .int .i64 en ∧ (∃ x : Bool, s145 = .bool x ∧ Hid (x = decide (st < m ∧ m < en))) ∧ wx = wo)
        case first =>
          by_cases hA : st < m
          · by_cases hBB : m < en
            · go_wp2
              go_meet
              case rel => exact ⟨rfl, ⟨_, rfl, (decide_eq_true ⟨hA, hBB⟩).symm⟩, rfl⟩
            · go_wp2
              go_meet
              case rel => exact ⟨rfl, ⟨_, rfl, (decide_eq_false fun h => hBB h.2).symm⟩, rfl⟩
          · go_wp2
            go_meet
            case rel => exact ⟨rfl, ⟨_, rfl, (decide_eq_false fun h => hA h.1).symm⟩, rfl⟩
        case rest =>
          obtain ⟨rfl, ⟨x, rfl, hx⟩, hwc⟩ := hcut
          obtain rfl : wo = wc := hwc.symm
          go_upto_if 145 with fail
          go_cut [22] (fun s22 wx => s22 = .int .i64 en ∧ ∃ d1, Hid (Rot st m en d d1) ∧ SW (eI nn) W blk off d1 wx)
          case first =>
            cases x with
            | true =>
              obtain ⟨hA, hBB⟩ := of_decide_eq_true hx.out.symm
              have hc := Hrot.out wo d hS rfl st m en hA hBB (by omega)
              go_wp2_with (go_at_call 50; refine hc.mono ?_; rintro e w1 ⟨rfl, d', hX, hS'⟩)
              go_meet
              case rel => exact ⟨rfl, d', hX, hS'⟩
            | false =>
              have hno := of_decide_eq_false hx.out.symm
              go_wp2
              go_meet
              case rel => exact ⟨rfl, d, Rot.none d (by omega), hS⟩
          case rest =>
            obtain ⟨rfl, d1, hR, hS1⟩ := hcut
            obtain ⟨w1, hw1⟩ : ∃ w1 : World, w1 = wc := ⟨_, rfl⟩
            obtain rfl : w1 = wc := hw1
            have hT := Lib.hid (HT.out d1 hR.out)
            have hz1 := hR.out.1
            have hP := Lib.hid (hR.out.perm (a := a) (b := b) (by omega) (by omega) (by omega) (by omega) hb)
            have ha0 : a ≤ st := by omega
            have hme : mid ≤ en := by omega
            have heb : en ≤ b := by omega
            clear hx hS hc0 hc1 HT hR
            have hc0 := C0.out d1 w1 hS1
            have hc1 := C1.out d1 w1 hS1
            go_upto_region 42 with fail
            go_cut [145, 158] (fun s145 s158 wx => (∃ x : Bool, s158 = .bool x ∧ Hid (x = decide (a < st ∧ st < mid))) ∧ wx = w1)
            case first =>
              by_cases hA : a < st
              · by_cases hBB : st < mid
                · go_wp2
                  go_meet
                  case rel => exact ⟨⟨_, rfl, (decide_eq_true ⟨hA, hBB⟩).symm⟩, rfl⟩
                · go_wp2
                  go_meet
                  case rel => exact ⟨⟨_, rfl, (decide_eq_false fun h => hBB h.2).symm⟩, rfl⟩
              · go_wp2
                go_meet
                case rel => exact ⟨⟨_, rfl, (decide_eq_false fun h => hA h.1).symm⟩, rfl⟩
            case rest =>
              obtain ⟨⟨x, rfl, hx⟩, hwc⟩ := hcut
              obtain rfl : w1 = wc := hwc.symm
              go_upto_if 158 with fail
              go_cut [22] (fun s22 wx => s22 = .int .i64 en ∧ ∃ d2, Hid (Merged key a mid d1 d2) ∧ SW (eI nn) W blk off d2 wx)
              case first =>
                cases x with
                | true =>
                  obtain ⟨hA, hBB⟩ := of_decide_eq_true hx.out.symm
                  have hc := Hrec.out w1 d1 hS1 hz1 a st mid (by omega) hA hBB (by omega) hT.out.s1 hT.out.s2 hT.out.l1
                  go_wp2_with (go_at_call 48; refine hc.mono ?_; rintro e w2 ⟨rfl, d', hX, hS'⟩)
                  go_meet
                  case rel => exact ⟨rfl, d', hX, hS'⟩
                | false =>
                  have hno := of_decide_eq_false hx.out.symm
                  go_wp2
                  go_meet
                  case rel => exact ⟨rfl, d1, merged_skip hT.out.s1 hT.out.s2 hno ha0 hstm, hS1⟩
              case rest =>
                obtain ⟨rfl, d2, hM1, hS2⟩ := hcut
                obtain ⟨w2, hw2⟩ : ∃ w2 : World, w2 = wc := ⟨_, rfl⟩
                obtain rfl : w2 = wc := hw2
                have hN := Lib.hid (turned_next hT.out hM1.out hme)
                have hz2 : d2.size = d.size := by rw [hM1.out.1.1, hz1]
                clear hx hc0 hc1 hS1
                have hc0 := C0.out d2 w2 hS2
                have hc1 := C1.out d2 w2 hS2
                by_cases hA : mid < en
                · by_cases hBB : en < b
                  · have hc := Hrec.out w2 d2 hS2 hz2 mid en b (by omega) hA hBB (by omega) hN.out.1 hN.out.2.1 hN.out.2.2
                    go_wp2_with (go_at_call 48; refine hc.mono ?_; rintro e w3 ⟨rfl, d', hX, hS'⟩)
                    go_end0
                    exact ⟨rfl, d', merged_both hb (by omega) (by omega) hP.out hT.out hM1.out hX, Hup.out _ _ hS'⟩
                  · have hM2 := Lib.hid (merged_skip hN.out.1 hN.out.2.1 (fun h => hBB h.2) hme heb)
                    go_wp2
                    go_end0
                    exact ⟨rfl, d2, merged_both hb (by omega) (by omega) hP.out hT.out hM1.out hM2.out, Hup.out _ _ hS2⟩
                · have hM2 := Lib.hid (merged_skip hN.out.1 hN.out.2.1 (fun h => hA h.1) hme heb)
                  go_wp2
                  go_end0
                  exact ⟨rfl, d2, merged_both hb (by omega) (by omega) hP.out hT.out hM1.out hM2.out, Hup.out _ _ hS2⟩

theorem symMerge_w (key : Nat → Int) (g : Nat) (lb : Array Value) (sf : Nat) (sb : Array Value) (blk off size : Nat) (eg : ∀ args w, (callFunc g args).run Try.prog w = .ok (.enter g args) w) (hswap : SwapSwaps Try.prog sf sb (eI nn) blk off size) (hsz : size < 1048576) :
    ∀ (n a m b : Nat) (d : Array Nat) (w : World), b - a ≤ n → a < m → m < b → b ≤ d.size → d.size = size → LessReads Try.prog g lb (eI nn) (gtB key) blk off d.size w → Holds (eI nn) w blk off d → blk < w.heap.size → Srt key d a m → Srt key d m b → LR d a m b →
      Calls Try.prog 48 #[.agg (dat g lb sf sb), .int .i64 a, .int .i64 m, .int .i64 b] w fun e w' => e = .returned (.tuple #[]) ∧ ∃ d', Merged key a b d d' ∧ SW (eI nn) w blk off d' w' := by
  intro n
  induction n with
  | zero => intro a m b d w h0 h1 h2; omega
  | succ n ih =>
    intro a m b d w h0 ham hmb hb hz hless hH hblk h1 h2 hlr
    subst hz
    by_cases hf : m ≤ a + 1
    · exact symFirst_w key g lb sf sb blk off a m b d w eg hless hswap hH hblk (by omega) hf hmb hb hsz h2 hlr
    · by_cases hl : b ≤ m + 1
      · exact symLast_w key g lb sf sb blk off a m b d w eg hless hswap hH hblk (by omega) (by omega) hl hb hsz h1 hlr
      · exact symMid_w key g lb sf sb blk off a m b d w eg hless hswap hH hblk (by omega) (by omega) hb hsz h1 h2 hlr fun a' m' b' d' w' k0 k1 k2 k3 k4 => ih a' m' b' d' w' (by omega) k1 k2 k3 k4

end Go.Proofs.Ytfijgegegfpfkaa
