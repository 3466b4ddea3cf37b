/- A word with numbers behind it, whatever they are; a line of a report. -/
import Derived.Test.YtafbdbefmlgioaaGreatDoorNumN
import Derived.Test.YtafbdbefmlgioaaGreatDoorEvI
import Derived.Test.YtafbdbefmlgioaaGreatDoorLedA
import Derived.Deep.RegionWith
import Derived.Test.YtafbdbefmlgioaaGreatDoorWO
namespace Go.Proofs.YtafbdbefmlgioaaGreatDoor
open Go.RowKit
set_option linter.unusedVariables false
set_option linter.unusedSimpArgs false

/-- the numbers behind a word, whatever they are, each behind a blank -/
def tailN (xs : List Int) : List UInt8 := Lib.joinTail [32] (xs.map ntext)
theorem tailN_snoc (xs : List Int) (x : Int) : tailN (xs ++ [x]) = tailN xs ++ ([32] ++ ntext x) := by unfold tailN; simp [Lib.joinTail]
theorem tailN_cons (x : Int) (r : List Int) : tailN (x :: r) = ([32] ++ ntext x) ++ tailN r := by unfold tailN; simp [Lib.joinTail]
theorem tailN_len : ∀ (xs : List Int), (tailN xs).length ≤ 18 * xs.length
  | [] => by simp [tailN, Lib.joinTail]
  | x :: r => by
    have hd := ntext_len x
    have ih := tailN_len r
    rw [tailN_cons, List.length_append, List.length_append, List.length_cons]
    simp only [List.length_cons, List.length_nil]
    omega
def lineR (s : List UInt8) (xs : List Int) : List UInt8 := s ++ tailN xs ++ [10]
theorem lineR_len (s : List UInt8) (xs : List Int) : (lineR s xs).length ≤ s.length + 18 * xs.length + 1 := by
  have := tailN_len xs
  unfold lineR
  simp only [List.length_append, List.length_cons, List.length_nil]
  omega
def ntS (x : Int) : ByteArray := S (ntext x)
theorem withN_all (s : ByteArray) (xs : List Int) : ([s] ++ xs.map ntS).map (·.data.toList) = s.data.toList :: xs.map ntext := by simp [ntS, S]

set_option maxHeartbeats 800000 in
theorem numText_all (n : Int) (hi : -9223372036854775808 ≤ n ∧ n ≤ 9223372036854775807) (w : World) (T : Pow w) : Calls Tryz.prog 66 #[.int .i64 n] w fun e w' => e = .returned (.string (S (ntext n))) ∧ Below w.heap.size w w' := by
  cases h : inB n (-1125899906842624) 1125899906842624 with
  | false =>
    have hr := Lib.hid (ntext_out h)
    go_enter Tryz.func66, Tryz.ntmps66
    go_wp2_with (first | (go_at_call 85; refine (in_impl _ _ _ _).mono ?_; rintro e w1 ⟨he, rfl⟩; rw [h] at he; subst he) | (go_at_call 102; refine (Tryz.strconv_Itoa n (by omega) (by omega) _ T).mono ?_; rintro e w1 ⟨rfl, k, os, rfl⟩))
    go_ret
    exact ⟨by rw [hr.out]; rfl, Below.refl _ _⟩
  | true =>
    have hb := inB_t h
    have hr : Hid (ntext n = Lib.itoa n) := if_pos h
    go_enter Tryz.func66, Tryz.ntmps66
    go_wp2_with (first | (go_at_call 85; refine (in_impl _ _ _ _).mono ?_; rintro e w1 ⟨he, rfl⟩; rw [h] at he; subst he) | (go_at_call 102; refine (Tryz.strconv_Itoa n (by omega) (by omega) _ T).mono ?_; rintro e w1 ⟨rfl, k, os, rfl⟩))
    go_ret
    exact ⟨by rw [hr.out]; rfl, Lib.below_grow _ _ (Nat.le_refl _) k os⟩

set_option maxRecDepth 100000 in
set_option maxHeartbeats 3200000 in
theorem withNumbers_all (s : ByteArray) (a : Option Addr) (len cap : Nat) (xs : List Int) (w : World) (S0 : IS w w.heap.size a len xs) (T0 : Pow w) (hlen : len ≤ 1048576) (hs : s.size ≤ 1048576) :
    Calls Tryz.prog 29 #[.string s, .slice a len cap] w fun e w' => e = .returned (.string (S (s.data.toList ++ tailN xs))) ∧ Below w.heap.size w w' := by
  have hl := S0.len
  have Hxl := Lib.hid S0.1
  have hst : s.data.toList.length = s.size := Array.length_toList
  have Hst := Lib.hid hst
  clear hst
  have O0 := OwnS.one w w.heap.size (Nat.le_refl _) s
  go_enter Tryz.func29, Tryz.ntmps29
  go_wp2
  go_loopw [5, 7, 12] (fun v _ i wr => ∃ k : Nat, k ≤ len ∧ i = .int .i64 k ∧ OwnS wr w.heap.size v ([s] ++ (xs.take k).map ntS) ∧ Below w.heap.size w wr) (fun _ _ i _ => len - (intOf i).toNat)
  case atStart => exact ⟨0, Nat.zero_le _, rfl, O0, below_alloc (Below.refl _ _) _⟩
  case round =>
    obtain ⟨k, hk, rfl, hown, hB⟩ := hrel
    have hkl : ([s] ++ (xs.take k).map ntS).length ≤ 1099511627775 := by simp [List.length_take]; omega
    by_cases hlt : k < len
    · obtain ⟨b, off, x, rfl, hb, hc, hbd, hx, hxs⟩ := (S0.keep hB).at_ hlt
      have hz := hB.size
      have hst2 : Hid ([s] ++ (xs.take (k + 1)).map ntS = ([s] ++ (xs.take k).map ntS) ++ [S (ntext x)]) := by unfold Hid; rw [hxs.out, List.map_append, ← List.append_assoc]; rfl
      obtain ⟨L, hL⟩ : ∃ L, L = [s] ++ (xs.take k).map ntS := ⟨_, rfl⟩
      rw [← hL] at hown hkl
      have HL := Lib.hid hL
      have T1 := T0.keep hB
      have Hbd := Lib.hid hbd
      clear hbd hL
      go_wp2_with fail
      refine (numText_all x Hbd.out _ T1).mono ?_
      rintro e w2 ⟨rfl, b2⟩
      have hown2 := OwnF.keep hown b2
      have hB2 := below_via b2 hB
      have hz2 := hB2.size
      go_wp2_with (at_builtin; refine wpList_append_f infoString Tryz.underlying109 rfl (by decide) (by decide) lenS oneS rfl _ _ rfl w.heap.size _ L rfl (hown2.alloc _) _ (S (ntext x)) rfl (new_cells _ _ _ rfl) hkl (Nat.le_trans hz2 (size_alloc_le _ _)) ?_)
      intro v' w4 hown4 hb4 _
      go_wp2
      go_roundw
      case rel => exact ⟨k + 1, by omega, by go_num, by rw [hst2.out, ← HL.out]; exact hown4, (below_alloc hB2 _).trans hb4⟩
      case measure => simp [intOf]; omega
    · have hall := S0.all (k := k) (by omega)
      rw [hall] at hown
      clear hall hkl
      have hj : Hid (Lib.join (([s] ++ xs.map ntS).map (·.data.toList)) [32] = s.data.toList ++ tailN xs) := by unfold Hid tailN; rw [withN_all, Lib.join_cons]
      have hjl : (s.data.toList ++ tailN xs).length ≤ 140737488355328 := by
        rw [List.length_append, Hst.out]
        have := tailN_len xs
        have := Hxl.out
        omega
      obtain ⟨L, hL⟩ : ∃ L, L = [s] ++ xs.map ntS := ⟨_, rfl⟩
      rw [← hL] at hown hj
      have hLl : L.length ≤ 140737488355328 := by rw [hL]; simp; have := Hxl.out; omega
      clear hL
      go_wp2_with fail
      refine (join_own _ L ⟨#[32]⟩ _ _ hown hLl (by have := hj.out; rw [this]; exact hjl)).mono ?_
      rintro e w2 ⟨rfl, b2⟩
      go_wp2
      go_ret
      exact ⟨by rw [← hj.out]; rfl, below_via b2 hB⟩

set_option maxRecDepth 100000 in
set_option maxHeartbeats 3200000 in
theorem line_spec (s : ByteArray) (a : Option Addr) (len cap : Nat) (xs : List Int) (w : World) (S0 : IS w w.heap.size a len xs) (hlen : len ≤ 64) (hs : s.size ≤ 1048576) :
    Calls Tryz.prog 23 #[.string s, .slice a len cap] w fun e w' => e = .returned (.string (S (lineR s.data.toList xs))) ∧ Below w.heap.size w w' := by
  have hl := S0.len
  have Hxl := Lib.hid S0.1
  have hst : s.data.toList.length = s.size := Array.length_toList
  have Hst := Lib.hid hst
  have hS0 : S s.data.toList = s := by apply ByteArray.ext; simp [S]
  clear hst
  go_enter Tryz.func23, Tryz.ntmps23
  go_wp2
  go_loopw [0, 6, 9] (fun v _ i wr => ∃ (k : Nat) (t : ByteArray), k ≤ len ∧ i = .int .i64 k ∧ v = .string t ∧ Hid (t = S (s.data.toList ++ tailN (xs.take k))) ∧ t.size ≤ 1048576 + 18 * k ∧ Below w.heap.size w wr) (fun _ _ i _ => len - (intOf i).toNat)
  case atStart => exact ⟨0, s, Nat.zero_le _, rfl, rfl, by unfold Hid; simp [tailN, Lib.joinTail, hS0], by omega, Below.refl _ _⟩
  case round =>
    obtain ⟨k, t, hk, rfl, rfl, ht, htl, hB⟩ := hrel
    by_cases hlt : k < len
    · obtain ⟨b, off, x, rfl, hb, hc, hbd, hx, hxs⟩ := (S0.keep hB).at_ hlt
      have Hbd := Lib.hid hbd
      have hnl := ntext_len x
      have hns : (S (ntext x)).size ≤ 17 := by simpa [S, ByteArray.size] using hnl
      have hn1 : (t ++ ({ data := #[32] } : ByteArray)).size ≤ 1048576 + 18 * k + 1 := by rw [ByteArray.size_append]; show t.size + 1 ≤ _; omega
      have hn2 : (t ++ ({ data := #[32] } : ByteArray) ++ S (ntext x)).size ≤ 1048576 + 18 * (k + 1) := by rw [ByteArray.size_append]; omega
      have hst2 : Hid (t ++ ({ data := #[32] } : ByteArray) ++ S (ntext x) = S (s.data.toList ++ tailN (xs.take (k + 1)))) := by
        unfold Hid
        rw [ht.out, hxs.out, tailN_snoc, show ({ data := #[32] } : ByteArray) = S [32] from rfl, S_append, S_append]
        simp
      clear hbd hnl hx
      go_wp2_with fail
      refine (numText_spec x Hbd.out _).mono ?_
      rintro e w2 ⟨rfl, b2⟩
      have hB2 := below_via b2 hB
      go_wp2
      go_roundw
      case rel => exact ⟨k + 1, _, by omega, by go_num, rfl, hst2, hn2, hB2⟩
      case measure => simp [intOf]; omega
    · have hall := S0.all (k := k) (by omega)
      rw [hall] at ht
      clear hall
      have hn1 : (t ++ ({ data := #[10] } : ByteArray)).size ≤ 1048576 + 18 * k + 1 := by rw [ByteArray.size_append]; show t.size + 1 ≤ _; omega
      have hf : Hid (t ++ ({ data := #[10] } : ByteArray) = S (lineR s.data.toList xs)) := by
        unfold Hid lineR
        rw [ht.out, show ({ data := #[10] } : ByteArray) = S [10] from rfl, S_append]
      go_wp2
      go_ret
      exact ⟨by rw [← hf.out]; rfl, hB⟩

def accWs : List (List UInt8) := [[], [119, 97, 108, 108, 101, 116], [101, 113, 117, 105, 116, 121], [105, 110, 99, 111, 109, 101], [114, 101, 98, 97, 108], [99, 104, 97, 105, 110], [108, 111, 99, 97, 108], [105, 110], [111, 117, 116]]
def accW (k : Int) : List UInt8 := (accWs[k.toNat]?).getD []
def accText (k c : Int) : List UInt8 := if accOk k c = true then accW k ++ (if 0 < c then ntext c else []) else []
theorem accW_get (k : Nat) (h : k < 9) : (accWs.map S)[k]? = some (S (accW (k : Int))) := by
  have hl : accWs.length = 9 := rfl
  rw [List.getElem?_map]
  unfold accW
  rw [show ((k : Int)).toNat = k from rfl, List.getElem?_eq_getElem (by omega)]
  rfl
theorem accW_len (k : Int) : (accW k).length ≤ 6 := by
  unfold accW
  cases h : accWs[k.toNat]? with
  | none => simp
  | some x =>
    have := List.mem_of_getElem? h
    simp [accWs] at this
    rcases this with rfl | rfl | rfl | rfl | rfl | rfl | rfl | rfl | rfl <;> decide
theorem accText_len (k c : Int) : (accText k c).length ≤ 23 := by
  have h1 := accW_len k
  have h2 := ntext_len c
  unfold accText
  split
  · rw [List.length_append]; split
    · omega
    · simp; omega
  · simp
theorem accWords_words : words [32, 119, 97, 108, 108, 101, 116, 32, 101, 113, 117, 105, 116, 121, 32, 105, 110, 99, 111, 109, 101, 32, 114, 101, 98, 97, 108, 32, 99, 104, 97, 105, 110, 32, 108, 111, 99, 97, 108, 32, 105, 110, 32, 111, 117, 116] = accWs := by decide +kernel
theorem splitAcc (w : World) (mx : ∃ m, w.cell? ⟨0, 0, none⟩ = some (.int .i64 m)) : Calls Tryz.prog 49 #[.string ⟨#[32, 119, 97, 108, 108, 101, 116, 32, 101, 113, 117, 105, 116, 121, 32, 105, 110, 99, 111, 109, 101, 32, 114, 101, 98, 97, 108, 32, 99, 104, 97, 105, 110, 32, 108, 111, 99, 97, 108, 32, 105, 110, 32, 111, 117, 116]⟩, .string ⟨#[32]⟩] w fun e w' =>
    (∃ g off c, e = .returned (.slice (some ⟨g, off, none⟩) 9 c) ∧ ∀ n : Nat, n < 9 → w'.cell? ⟨g, off + n, none⟩ = some (.string (S (accW n)))) ∧ Below w.heap.size w w' := by
  refine (split_mx _ (by decide) w mx).mono ?_
  rintro e w' ⟨⟨v, rfl, hown⟩, b⟩
  obtain ⟨a, c, rfl, ho⟩ := OwnF.of (ok := fun _ => True) hown (fun _ _ => trivial)
  have F := OF.fs lenS ho
  have e : (words (ByteArray.data ⟨#[32, 119, 97, 108, 108, 101, 116, 32, 101, 113, 117, 105, 116, 121, 32, 105, 110, 99, 111, 109, 101, 32, 114, 101, 98, 97, 108, 32, 99, 104, 97, 105, 110, 32, 108, 111, 99, 97, 108, 32, 105, 110, 32, 111, 117, 116]⟩).toList).map S = accWs.map S := congrArg (List.map S) accWords_words
  rw [e] at F ho
  have hl : (accWs.map S).length = 9 := rfl
  rw [hl] at F
  obtain ⟨bk, off, x, ea, hb, hc, -⟩ := F.at_ (k := 0) (by omega)
  subst ea
  refine ⟨⟨bk, off, c, by rw [e, hl], fun n hn => ?_⟩, b⟩
  obtain ⟨b2, o2, e2, -, hc2⟩ := F.2.2.2 n _ (accW_get n hn)
  injection e2 with e2
  injection e2 with q1 q2
  subst q1
  subst q2
  have := hc2 0 _ rfl
  rw [show off + n * 1 + 0 = off + n by omega] at this
  exact this

set_option maxRecDepth 100000 in
set_option maxHeartbeats 3200000 in
theorem accText_impl (k c : Int) (hi : I64 c) (w : World) (T : PM w) : Calls Tryz.prog 30 #[.agg #[.int .i64 k, .int .i64 c]] w fun e w' => e = .returned (.string (S (accText k c))) ∧ Below w.heap.size w w' := by
  cases hok : accOk k c with
  | false =>
    have hr : Hid (accText k c = []) := by unfold Hid accText; rw [hok]; rfl
    go_enter Tryz.func30, Tryz.ntmps30
    go_wp2_with (go_at_call 68; refine (accOk_impl _ _ _).mono ?_; rintro e w1 ⟨he, hb⟩; rw [hok] at he; subst he; obtain ⟨hc0, hf0, hs0, hz0⟩ := brules hb)
    go_ret
    exact ⟨by rw [hr.out]; rfl, below_via hb (by (repeat (first | (with_reducible exact Below.refl _ _) | (with_reducible assumption) | (with_reducible refine Below.setCell ?_ ?side _; case side => first | (with_reducible exact Nat.le_refl _) | (simp; done) | (simp only [World.size_alloc, World.size_setCell, World.size_drew, World.heap_drewN] at *; omega)) | (with_reducible refine below_alloc ?_ _) | (with_reducible refine Below.drew ?_) | (with_reducible refine below_drewN ?_) | (with_reducible refine below_via (by assumption) ?_))))⟩
  | true =>
    have hb0 := of_decide_eq_true hok
    obtain ⟨n, rfl⟩ : ∃ n : Nat, k = (n : Int) := ⟨k.toNat, by omega⟩
    have hn : n < 9 := by omega
    have hwl := accW_len (n : Int)
    have hws : (S (accW (n : Int))).size ≤ 6 := by simpa [S, ByteArray.size] using hwl
    have Hi := Lib.hid hi
    have hnl := ntext_len c
    have hns : (S (ntext c)).size ≤ 17 := by simpa [S, ByteArray.size] using hnl
    clear hwl hi
    by_cases hc : 0 < c
    · have hr : Hid (S (accW (n : Int)) ++ S (ntext c) = S (accText n c)) := by unfold Hid accText; rw [hok, if_pos rfl, if_pos hc, S_append]
      have hsz : (S (accW (n : Int)) ++ S (ntext c)).size ≤ 23 := by rw [ByteArray.size_append]; omega
      go_enter Tryz.func30, Tryz.ntmps30
      go_wp2_with (go_at_call 68; refine (accOk_impl _ _ _).mono ?_; rintro e w1 ⟨he, hb⟩; rw [hok] at he; subst he; obtain ⟨hc0, hf0, hs0, hz0⟩ := brules hb)
      have B1 : Below w.heap.size w w1 := below_via hb (by (repeat (first | (with_reducible exact Below.refl _ _) | (with_reducible assumption) | (with_reducible refine Below.setCell ?_ ?side _; case side => first | (with_reducible exact Nat.le_refl _) | (simp; done) | (simp only [World.size_alloc, World.size_setCell, World.size_drew, World.heap_drewN] at *; omega)) | (with_reducible refine below_alloc ?_ _) | (with_reducible refine Below.drew ?_) | (with_reducible refine below_drewN ?_) | (with_reducible refine below_via (by assumption) ?_))))
      go_region_with (go_at_call 49; refine (splitAcc _ ((T.keep (by (repeat (first | (with_reducible exact Below.refl _ _) | (with_reducible assumption) | (with_reducible refine Below.setCell ?_ ?side _; case side => first | (with_reducible exact Nat.le_refl _) | (simp; done) | (simp only [World.size_alloc, World.size_setCell, World.size_drew, World.heap_drewN] at *; omega)) | (with_reducible refine below_alloc ?_ _) | (with_reducible refine Below.drew ?_) | (with_reducible refine below_drewN ?_) | (with_reducible refine below_via (by assumption) ?_))))).mx)).mono ?_; rintro e w2 ⟨⟨g, off, cp, rfl, hcell⟩, hb2⟩; have B2 : Below w.heap.size w w2 := below_via hb2 (by (repeat (first | (with_reducible exact Below.refl _ _) | (with_reducible assumption) | (with_reducible refine Below.setCell ?_ ?side _; case side => first | (with_reducible exact Nat.le_refl _) | (simp; done) | (simp only [World.size_alloc, World.size_setCell, World.size_drew, World.heap_drewN] at *; omega)) | (with_reducible refine below_alloc ?_ _) | (with_reducible refine Below.drew ?_) | (with_reducible refine below_drewN ?_) | (with_reducible refine below_via (by assumption) ?_)))); have cw := hcell n hn; have H2 := below_upd hb hb2 (by (repeat (first | (with_reducible exact Below.refl _ _) | (with_reducible assumption) | (with_reducible refine Below.setCell ?_ ?side _; case side => first | (with_reducible exact Nat.le_refl _) | (simp; done) | (simp only [World.size_alloc, World.size_setCell, World.size_drew, World.heap_drewN] at *; omega)) | (with_reducible refine below_alloc ?_ _) | (with_reducible refine Below.drew ?_) | (with_reducible refine below_drewN ?_) | (with_reducible refine below_via (by assumption) ?_)))); clear hc0 hf0 hs0 hz0 hcell; obtain ⟨hc0, hf0, hs0, hz0⟩ := brules H2)
      all_goals
        go_wp2_with fail
        refine (numText_all c Hi.out _ ((T.keep (by (repeat (first | (with_reducible exact Below.refl _ _) | (with_reducible assumption) | (with_reducible refine Below.setCell ?_ ?side _; case side => first | (with_reducible exact Nat.le_refl _) | (simp; done) | (simp only [World.size_alloc, World.size_setCell, World.size_drew, World.heap_drewN] at *; omega)) | (with_reducible refine below_alloc ?_ _) | (with_reducible refine Below.drew ?_) | (with_reducible refine below_drewN ?_) | (with_reducible refine below_via (by assumption) ?_))))).pow)).mono ?_
        rintro e w3 ⟨rfl, hb3⟩
        have B3 : Below w.heap.size w w3 := below_via hb3 (by (repeat (first | (with_reducible exact Below.refl _ _) | (with_reducible assumption) | (with_reducible refine Below.setCell ?_ ?side _; case side => first | (with_reducible exact Nat.le_refl _) | (simp; done) | (simp only [World.size_alloc, World.size_setCell, World.size_drew, World.heap_drewN] at *; omega)) | (with_reducible refine below_alloc ?_ _) | (with_reducible refine Below.drew ?_) | (with_reducible refine below_drewN ?_) | (with_reducible refine below_via (by assumption) ?_))))
        go_wp2
        go_ret
        exact ⟨by rw [← hr.out]; rfl, by (repeat (first | (with_reducible exact Below.refl _ _) | (with_reducible assumption) | (with_reducible refine Below.setCell ?_ ?side _; case side => first | (with_reducible exact Nat.le_refl _) | (simp; done) | (simp only [World.size_alloc, World.size_setCell, World.size_drew, World.heap_drewN] at *; omega)) | (with_reducible refine below_alloc ?_ _) | (with_reducible refine Below.drew ?_) | (with_reducible refine below_drewN ?_) | (with_reducible refine below_via (by assumption) ?_)))⟩
    · have hr : Hid (S (accW (n : Int)) = S (accText n c)) := by unfold Hid accText; rw [hok, if_pos rfl, if_neg hc, List.append_nil]
      go_enter Tryz.func30, Tryz.ntmps30
      go_wp2_with (go_at_call 68; refine (accOk_impl _ _ _).mono ?_; rintro e w1 ⟨he, hb⟩; rw [hok] at he; subst he; obtain ⟨hc0, hf0, hs0, hz0⟩ := brules hb)
      have B1 : Below w.heap.size w w1 := below_via hb (by (repeat (first | (with_reducible exact Below.refl _ _) | (with_reducible assumption) | (with_reducible refine Below.setCell ?_ ?side _; case side => first | (with_reducible exact Nat.le_refl _) | (simp; done) | (simp only [World.size_alloc, World.size_setCell, World.size_drew, World.heap_drewN] at *; omega)) | (with_reducible refine below_alloc ?_ _) | (with_reducible refine Below.drew ?_) | (with_reducible refine below_drewN ?_) | (with_reducible refine below_via (by assumption) ?_))))
      go_region_with (go_at_call 49; refine (splitAcc _ ((T.keep (by (repeat (first | (with_reducible exact Below.refl _ _) | (with_reducible assumption) | (with_reducible refine Below.setCell ?_ ?side _; case side => first | (with_reducible exact Nat.le_refl _) | (simp; done) | (simp only [World.size_alloc, World.size_setCell, World.size_drew, World.heap_drewN] at *; omega)) | (with_reducible refine below_alloc ?_ _) | (with_reducible refine Below.drew ?_) | (with_reducible refine below_drewN ?_) | (with_reducible refine below_via (by assumption) ?_))))).mx)).mono ?_; rintro e w2 ⟨⟨g, off, cp, rfl, hcell⟩, hb2⟩; have B2 : Below w.heap.size w w2 := below_via hb2 (by (repeat (first | (with_reducible exact Below.refl _ _) | (with_reducible assumption) | (with_reducible refine Below.setCell ?_ ?side _; case side => first | (with_reducible exact Nat.le_refl _) | (simp; done) | (simp only [World.size_alloc, World.size_setCell, World.size_drew, World.heap_drewN] at *; omega)) | (with_reducible refine below_alloc ?_ _) | (with_reducible refine Below.drew ?_) | (with_reducible refine below_drewN ?_) | (with_reducible refine below_via (by assumption) ?_)))); have cw := hcell n hn; have H2 := below_upd hb hb2 (by (repeat (first | (with_reducible exact Below.refl _ _) | (with_reducible assumption) | (with_reducible refine Below.setCell ?_ ?side _; case side => first | (with_reducible exact Nat.le_refl _) | (simp; done) | (simp only [World.size_alloc, World.size_setCell, World.size_drew, World.heap_drewN] at *; omega)) | (with_reducible refine below_alloc ?_ _) | (with_reducible refine Below.drew ?_) | (with_reducible refine below_drewN ?_) | (with_reducible refine below_via (by assumption) ?_)))); clear hc0 hf0 hs0 hz0 hcell; obtain ⟨hc0, hf0, hs0, hz0⟩ := brules H2)
      all_goals
        go_wp2
        go_ret
        exact ⟨by rw [← hr.out]; rfl, by (repeat (first | (with_reducible exact Below.refl _ _) | (with_reducible assumption) | (with_reducible refine Below.setCell ?_ ?side _; case side => first | (with_reducible exact Nat.le_refl _) | (simp; done) | (simp only [World.size_alloc, World.size_setCell, World.size_drew, World.heap_drewN] at *; omega)) | (with_reducible refine below_alloc ?_ _) | (with_reducible refine Below.drew ?_) | (with_reducible refine below_drewN ?_) | (with_reducible refine below_via (by assumption) ?_)))⟩

set_option maxRecDepth 100000 in
set_option maxHeartbeats 3200000 in
theorem accText_spec (k c : Int) (hi : I64 c) (w : World) : Calls Tryz.prog 24 #[.agg #[.int .i64 k, .int .i64 c]] w fun e w' => e = .returned (.string (S (accText k c))) ∧ Below w.heap.size w w' := by
  cases hok : accOk k c with
  | false =>
    have hr : Hid (accText k c = []) := by unfold Hid accText; rw [hok]; rfl
    go_enter Tryz.func24, Tryz.ntmps24
    go_wp2_with (go_at_call 59; refine (accOk_spec _ _ _).mono ?_; rintro e w1 ⟨he, hb⟩; rw [hok] at he; subst he; obtain ⟨hc0, hf0, hs0, hz0⟩ := brules hb)
    go_ret
    exact ⟨by rw [hr.out]; rfl, below_via hb (by (repeat (first | (with_reducible exact Below.refl _ _) | (with_reducible assumption) | (with_reducible refine Below.setCell ?_ ?side _; case side => first | (with_reducible exact Nat.le_refl _) | (simp; done) | (simp only [World.size_alloc, World.size_setCell, World.size_drew, World.heap_drewN] at *; omega)) | (with_reducible refine below_alloc ?_ _) | (with_reducible refine Below.drew ?_) | (with_reducible refine below_drewN ?_) | (with_reducible refine below_via (by assumption) ?_))))⟩
  | true =>
    have hb0 := of_decide_eq_true hok
    have hwl := accW_len k
    have Hi := Lib.hid hi
    have hnl := ntext_len c
    have hns : (S (ntext c)).size ≤ 17 := by simpa [S, ByteArray.size] using hnl
    clear hwl hi
    rcases (show ((k = 1 ∨ k = 2 ∨ k = 3 ∨ k = 4 ∨ k = 5) ∧ ¬ 0 < c) ∨ ((k = 6 ∨ k = 7 ∨ k = 8) ∧ 0 < c) by omega) with ⟨hk, hc⟩ | ⟨hk, hc⟩
    · have hr : Hid (S (accW k) = S (accText k c)) := by unfold Hid accText; rw [hok, if_pos rfl, if_neg hc, List.append_nil]
      rcases hk with rfl | rfl | rfl | rfl | rfl
      all_goals
        go_enter Tryz.func24, Tryz.ntmps24
        go_wp2_with (go_at_call 59; refine (accOk_spec _ _ _).mono ?_; rintro e w1 ⟨he, hb⟩; rw [hok] at he; subst he; obtain ⟨hc0, hf0, hs0, hz0⟩ := brules hb; have B1 : Below w.heap.size w w1 := below_via hb (by (repeat (first | (with_reducible exact Below.refl _ _) | (with_reducible assumption) | (with_reducible refine Below.setCell ?_ ?side _; case side => first | (with_reducible exact Nat.le_refl _) | (simp; done) | (simp only [World.size_alloc, World.size_setCell, World.size_drew, World.heap_drewN] at *; omega)) | (with_reducible refine below_alloc ?_ _) | (with_reducible refine Below.drew ?_) | (with_reducible refine below_drewN ?_) | (with_reducible refine below_via (by assumption) ?_)))))
        go_ret
        exact ⟨by rw [← hr.out]; rfl, by (repeat (first | (with_reducible exact Below.refl _ _) | (with_reducible assumption) | (with_reducible refine Below.setCell ?_ ?side _; case side => first | (with_reducible exact Nat.le_refl _) | (simp; done) | (simp only [World.size_alloc, World.size_setCell, World.size_drew, World.heap_drewN] at *; omega)) | (with_reducible refine below_alloc ?_ _) | (with_reducible refine Below.drew ?_) | (with_reducible refine below_drewN ?_) | (with_reducible refine below_via (by assumption) ?_)))⟩
    · have hr : Hid (S (accW k) ++ S (ntext c) = S (accText k c)) := by unfold Hid accText; rw [hok, if_pos rfl, if_pos hc, S_append]
      rcases hk with rfl | rfl | rfl
      all_goals
        go_enter Tryz.func24, Tryz.ntmps24
        go_wp2_with (first
          | (go_at_call 59; refine (accOk_spec _ _ _).mono ?_; rintro e w1 ⟨he, hb⟩; rw [hok] at he; subst he; obtain ⟨hc0, hf0, hs0, hz0⟩ := brules hb; have B1 : Below w.heap.size w w1 := below_via hb (by (repeat (first | (with_reducible exact Below.refl _ _) | (with_reducible assumption) | (with_reducible refine Below.setCell ?_ ?side _; case side => first | (with_reducible exact Nat.le_refl _) | (simp; done) | (simp only [World.size_alloc, World.size_setCell, World.size_drew, World.heap_drewN] at *; omega)) | (with_reducible refine below_alloc ?_ _) | (with_reducible refine Below.drew ?_) | (with_reducible refine below_drewN ?_) | (with_reducible refine below_via (by assumption) ?_)))))
          | (go_at_call 58; refine (numText_spec c Hi.out _).mono ?_; rintro e w3 ⟨rfl, hb3⟩; have B3 : Below w.heap.size w w3 := below_via hb3 (by (repeat (first | (with_reducible exact Below.refl _ _) | (with_reducible assumption) | (with_reducible refine Below.setCell ?_ ?side _; case side => first | (with_reducible exact Nat.le_refl _) | (simp; done) | (simp only [World.size_alloc, World.size_setCell, World.size_drew, World.heap_drewN] at *; omega)) | (with_reducible refine below_alloc ?_ _) | (with_reducible refine Below.drew ?_) | (with_reducible refine below_drewN ?_) | (with_reducible refine below_via (by assumption) ?_))))))
        go_ret
        exact ⟨by rw [← hr.out]; rfl, by (repeat (first | (with_reducible exact Below.refl _ _) | (with_reducible assumption) | (with_reducible refine Below.setCell ?_ ?side _; case side => first | (with_reducible exact Nat.le_refl _) | (simp; done) | (simp only [World.size_alloc, World.size_setCell, World.size_drew, World.heap_drewN] at *; omega)) | (with_reducible refine below_alloc ?_ _) | (with_reducible refine Below.drew ?_) | (with_reducible refine below_drewN ?_) | (with_reducible refine below_via (by assumption) ?_)))⟩

def cnLine (c : Cn) : List UInt8 := lineR [99, 104, 97, 110] [c.id, c.loc, c.rem, c.base, c.ppm, c.score]
def htLine (h : Ht) : List UInt8 := lineR [104, 116, 108, 99] [h.key, h.inn, h.out, h.ain, h.aout]
def ciLine (c : Ci) : List UInt8 := lineR [99, 105, 114, 99, 108, 101] [c.key, c.frm, c.to, c.amt, c.fee]
def lnLine (x : Ln) : List UInt8 := lineR (accText x.kind x.ch) [x.amt]
def repHead (W : Wd) : List UInt8 := lineR [117, 112] [(W.took.length : Int), (W.sent.length : Int)] ++ lineR [119, 97, 108, 108, 101, 116] [W.hub.book.wallet]
/-- the report on a world -/
def repW (W : Wd) : List UInt8 := if W.up = true then (((repHead W ++ W.hub.book.chans.flatMap cnLine) ++ W.hub.book.htlcs.flatMap htLine) ++ W.hub.book.circles.flatMap ciLine) ++ W.hub.ledger.lines.flatMap lnLine
  else lineR [100, 111, 119, 110] [(W.took.length : Int), (W.sent.length : Int)]
theorem S_size (l : List UInt8) : (S l).size = l.length := by simp [S, ByteArray.size]
theorem IS.cell1 {w : World} {b : Nat} {x : Int} (h : w.cell? ⟨b, 0, none⟩ = some (.int .i64 x)) (hx : -9223372036854775808 ≤ x ∧ x ≤ 9223372036854775807) : IS w w.heap.size (some ⟨b, 0, none⟩) 1 [x] :=
  ⟨rfl, by simp [maxLen], by simpa using hx, fun i y hy => ⟨b, 0, rfl, Lib.lt_of_cell h, by
    cases i with
    | zero => simp at hy; subst hy; exact h
    | succ i => simp at hy⟩⟩
theorem IS.of2 {w : World} {b : Nat} {x y : Int} (h : w.cell? ⟨b, 0, none⟩ = some (.int .i64 x)) (h2 : w.cell? ⟨b, 1, none⟩ = some (.int .i64 y)) (hx : -9223372036854775808 ≤ x ∧ x ≤ 9223372036854775807) (hy : -9223372036854775808 ≤ y ∧ y ≤ 9223372036854775807) : IS w w.heap.size (some ⟨b, 0, none⟩) 2 [x, y] :=
  ⟨rfl, by simp [maxLen], by intro a ha; simp only [List.mem_cons, List.not_mem_nil, or_false] at ha; rcases ha with rfl | rfl <;> assumption, fun i z hz => ⟨b, 0, rfl, Lib.lt_of_cell h, by
    match i, hz with
    | 0, hz => simp at hz; subst hz; exact h
    | 1, hz => simp at hz; subst hz; exact h2
    | i + 2, hz => simp at hz⟩⟩
theorem S_list (l : List UInt8) : (S l).data.toList = l := by simp [S]
theorem accZ_len (k c x : Int) : (S ((S (accText k c)).data.toList ++ tailN [x])).size ≤ 60 := by
  rw [S_size, List.length_append, S_list]
  have h1 := tailN_len [x]
  have h2 := accText_len k c
  simp only [List.length_cons, List.length_nil] at h1
  omega
theorem accR_len (k c x : Int) : (S (lineR (S (accText k c)).data.toList [x])).size ≤ 61 := by
  rw [S_size, S_list]
  have h1 := lineR_len (accText k c) [x]
  have h2 := accText_len k c
  simp only [List.length_cons, List.length_nil] at h1
  omega
theorem flat_step {α : Type} {f : α → List UInt8} {xs : List α} {k : Nat} {x : α} (h : xs.take (k + 1) = xs.take k ++ [x]) : (xs.take (k + 1)).flatMap f = (xs.take k).flatMap f ++ f x := by rw [h, List.flatMap_append]; simp
theorem str_step {t Z : ByteArray} {b r m : List UInt8} (h : t = S (b ++ r)) (hz : Z = S m) : t ++ Z = S (b ++ (r ++ m)) := by rw [h, hz, S_append, List.append_assoc]

end Go.Proofs.YtafbdbefmlgioaaGreatDoor
