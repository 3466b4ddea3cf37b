/- Numbers as texts. -/
import Derived.Test.YtafbdbefmlgioaaGreatDoorAdd
import Derived.Test.YtafbdbefmlgioaaGreatDoorGrew
import Derived.Test.YtafbdbefmlgioaaGreatDoorShelf
import Derived.Deep.RegionWith
import Derived.Deep.Cut
import Derived.Lib.ItoaLen
import Derived.Laws.IdiomStrings
import Derived.Laws.BitsLemmas
namespace Go.Proofs.YtafbdbefmlgioaaGreatDoor
open Go.RowKit
set_option linter.unusedVariables false
set_option linter.unusedSimpArgs false

/-- a text out of its bytes -/
abbrev S (l : List UInt8) : ByteArray := ⟨l.toArray⟩
theorem S_append (a b : List UInt8) : S a ++ S b = S (a ++ b) := by
  apply ByteArray.ext
  simp [S]
theorem conv_one (z : Nat) (hz : z < 256) (W : World) (b : Nat) (h : W.cell? ⟨b, 0, none⟩ = some (.int .u8 (z : Int))) : (convert 72 9 (.slice (some ⟨b, 0, none⟩) 1 1)).run Tryz.prog W = .ok (.string (S [UInt8.ofNat z])) W := by
  refine run_convert_bytes_back W 72 9 5 ⟨b, 0, none⟩ 1 [UInt8.ofNat z] Tryz.underlying72 Tryz.underlying5 Tryz.underlying9 ?_
  intro j hj
  have hj0 : j = 0 := by simp at hj; omega
  subst hj0
  simp only [Addr.add]
  simpa [Nat.mod_eq_of_lt hz] using h

set_option maxRecDepth 100000 in
set_option maxHeartbeats 800000 in
theorem numText_spec0 (u : Nat) (hu : u ≤ 1125899906842624) : ∀ w : World, Calls Tryz.prog 58 #[.int .i64 (u : Int)] w fun e w' => e = .returned (.string (S (Lib.decDigits u))) ∧ Below w.heap.size w w' := by
  induction u using Nat.strongRecOn with
  | ind u ih =>
    intro w
    by_cases h10 : u < 10
    · have Hdig := Lib.hid (Lib.decDigits_one h10)
      obtain ⟨z, hz⟩ : ∃ z, z = 48 + u := ⟨_, rfl⟩
      have kc := conv_one z (by omega)
      have hz2 : (48 : Int) + (u : Int) = (z : Int) := by omega
      have Hz := Lib.hid hz
      clear ih hz
      go_enter Tryz.func58, Tryz.ntmps58
      go_wp2
      go_ret
      exact ⟨by rw [Hdig.out, Hz.out]; rfl, below_alloc (Below.refl _ _) _⟩
    · have Ih := Lib.hid (ih (u / 10) (by omega) (by omega))
      clear ih
      obtain ⟨q, hq⟩ : ∃ q, q = u / 10 := ⟨_, rfl⟩
      obtain ⟨d, hd⟩ : ∃ d, d = u % 10 := ⟨_, rfl⟩
      rw [← hq] at Ih
      obtain ⟨z, hz⟩ : ∃ z, z = 48 + d := ⟨_, rfl⟩
      have kc := conv_one z (by omega)
      have hz2 : (48 : Int) + (d : Int) = (z : Int) := by omega
      have h1 : (u : Int).tmod 10 = (d : Int) := by rw [hd]; rfl
      have h2 : (u : Int).tdiv 10 = (q : Int) := by rw [hq]; rfl
      have h3 : IntKind.i64.wrap (z : Int) = (z : Int) := by rw [IntKind.wrap_i64]; omega
      have h4 : IntKind.u8.wrap (z : Int) = (z : Int) := by rw [IntKind.wrap_u8]; omega
      have h5 : IntKind.i64.wrap (q : Int) = (q : Int) := by rw [IntKind.wrap_i64]; omega
      have Hq := Lib.hid hq
      have Hd := Lib.hid hd
      have Hz := Lib.hid hz
      have hdig : Hid (Lib.decDigits u = Lib.decDigits q ++ [UInt8.ofNat z]) := by
        unfold Hid
        rw [hz, hd, hq, Lib.decDigits, dif_neg h10]
      have hs1 : (Lib.decDigits q).length ≤ 40 := by rw [Lib.decDigits_length]; have := Lib.nDigits_le20 q (by omega); omega
      have hs2 : (S (Lib.decDigits q)).size ≤ 40 := by simpa [S, ByteArray.size] using hs1
      have hs3 : (S [UInt8.ofNat z]).size ≤ 1 := Nat.le_refl 1
      clear hq hd hz
      go_enter Tryz.func58, Tryz.ntmps58
      go_upto_region 7 with fail
      go_region_with (go_at_call 58; refine (Ih.out _).mono ?_; rintro e w1 ⟨rfl, b1⟩; (try (have e0 : w1.cell? ⟨w.heap.size, 0, none⟩ = some (.int .u8 (z : Int)) := by ((refine cell_keep b1 ?_); (simp [go_sem]); done))))
      all_goals
        go_wp2
        go_ret
        exact ⟨by rw [hdig.out, ← S_append]; rfl, by first | exact b1 | exact below_via b1 (by (repeat (first | (with_reducible exact Below.refl _ _) | (with_reducible assumption) | (with_reducible refine Below.setCell ?_ ?side _; case side => first | (with_reducible exact Nat.le_refl _) | (simp; done) | (simp only [World.size_alloc, World.size_setCell, World.size_drew, World.heap_drewN] at *; omega)) | (with_reducible refine below_alloc ?_ _) | (with_reducible refine Below.drew ?_) | (with_reducible refine below_drewN ?_) | (with_reducible refine below_via (by assumption) ?_)))) | (refine below_alloc ?_ _; exact below_via b1 (by (repeat (first | (with_reducible exact Below.refl _ _) | (with_reducible assumption) | (with_reducible refine Below.setCell ?_ ?side _; case side => first | (with_reducible exact Nat.le_refl _) | (simp; done) | (simp only [World.size_alloc, World.size_setCell, World.size_drew, World.heap_drewN] at *; omega)) | (with_reducible refine below_alloc ?_ _) | (with_reducible refine Below.drew ?_) | (with_reducible refine below_drewN ?_) | (with_reducible refine below_via (by assumption) ?_)))))⟩

end Go.Proofs.YtafbdbefmlgioaaGreatDoor
