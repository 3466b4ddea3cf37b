/- Chances: the law walked. -/
import Derived.Test.YtegnlijgjcfmlaaFChance
import Derived.Test.YtegnlijgjcfmlaaOpenB
import Derived.Deep.RegionWith
namespace Go.Proofs.Ytegnlijgjcfmlaa
open Go.RowKit
set_option linter.unusedVariables false
set_option linter.unusedSimpArgs false

set_option maxRecDepth 100000 in
set_option maxHeartbeats 6400000 in
theorem walk_FnChance (a : Option Addr) (len cap : Nat) (xs : List Int) (w : World) (S0 : Bs w w.heap.size a len xs) : Calls Try.prog 5 #[.slice a len cap] w fun e w' => e = .returned (.bool true) ∧ Below w.heap.size w w' := by
  have hl := S0.lenB
  by_cases hlen : len ≤ 1048576
  · go_enter Try.func5, Try.ntmps5
    go_wp2_with fail
    refine (drawChanceAll_any _ _ _ xs _ S0).mono ?_
    rintro e w1 ⟨⟨sa, sc, ys, m, rfl, hs, hys, him⟩, b1⟩
    obtain ⟨ln, hln⟩ : ∃ ln, ln = ys.length := ⟨_, rfl⟩
    rw [← hln] at hs hys ⊢
    have s1 := OF.fs Gs.enc_len hs
    have Hln := Lib.hid hln
    clear hln hs
    go_wp2_with fail
    refine (chanceAll_impl _ _ _ m ys _ s1).mono ?_
    rintro e w2 ⟨rfl, b2⟩
    go_wp2_with fail
    refine (chanceAll_spec _ _ _ m ys _ (FS.keep s1 b2)).mono ?_
    rintro e w3 ⟨rfl, b3⟩
    have hmil := chAll_mil ys m
    obtain ⟨hmil0, hmil1⟩ := hmil
    have s3 := FS.keep (FS.keep s1 b2) b3
    have B3 : Below w.heap.size w w3 := (b1.trans (b2.mono b1.size)).trans (b3.mono (Nat.le_trans b1.size b2.size))
    clear s1
    go_wp2
    go_loopw [7, 26] (fun _ i wr => ∃ k : Nat, k ≤ ln ∧ i = .int .i64 k ∧ Below w3.heap.size w3 wr) (fun _ i _ => ln - (intOf i).toNat)
    case atStart => exact ⟨0, Nat.zero_le _, rfl, Below.refl _ _⟩
    case round =>
      obtain ⟨k, hk, rfl, hB⟩ := hrel
      by_cases hlt : k < ln
      · obtain ⟨b, off, rf, rt, rl, rp, rfl, hb, c0, c1, c2, c3, o0, o1, o2, o3, hx, hxs⟩ := GsS.cells (FS.keep s3 hB) hlt
        have hle : chAll ys m ≤ chance rf rt rl rp m := chAll_le hx.out
        have hcb := chance_bd rf rt rl rp m
        have hcb2 := chance_bd rf rt rl rp (m + 1)
        obtain ⟨o30, o31⟩ := o3
        go_wp2_with fail
        refine (chance_impl rf rt rl rp m _).mono ?_
        rintro e w4 ⟨rfl, b4⟩
        have e0 : w4.cell? ⟨wr.heap.size, 0, none⟩ = some (.int .i64 rf) := cell_keep b4 (by simp [go_sem])
        have e1 : w4.cell? ⟨wr.heap.size, 1, none⟩ = some (.int .i64 rt) := cell_keep b4 (by simp [go_sem])
        have e2 : w4.cell? ⟨wr.heap.size, 2, none⟩ = some (.int .i64 rl) := cell_keep b4 (by simp [go_sem])
        have e3 : w4.cell? ⟨wr.heap.size, 3, none⟩ = some (.int .i64 rp) := cell_keep b4 (by simp [go_sem])
        have hW : Below wr.heap.size wr w4 := below_via b4 (below_alloc (Below.refl _ _) _)
        have e0g := fun g : Grew w4 => g.cell e0
        have e1g := fun g : Grew w4 => g.cell e1
        have e2g := fun g : Grew w4 => g.cell e2
        have e3g := fun g : Grew w4 => g.cell e3
        rcases Bool.eq_false_or_eq_true (guessOk rf rt rl rp) with hgk | hgk
        · have GK := fun w => guessOk_spec rf rt rl rp w
          simp only [hgk] at GK
          by_cases hp : rp < 1125899906842624
          · by_cases hm : 0 < m
            · by_cases hm2 : m < 1125899906842624
              · have hmono := chance_mono hgk hp ⟨hm, hm2⟩ (f := rf) (t := rt)
                have q2 : IntKind.i64.wrap (m + 1) = m + 1 := by rw [IntKind.wrap_i64]; omega
                have q1 : decide (chance rf rt rl rp m < chance rf rt rl rp (m + 1)) = false := decide_eq_false (by omega)
                go_wp2
                refine wp_region_grew (by kernel_rfl) (by kernel_rfl) ?_
                repeat (go_big_quiet_step (first | (go_at_call 18; exact Calls.grew_of (GK _)) | (go_at_call 20; exact Calls.grew_of (chance_impl rf rt rl rp _ _))))
                refine wpQuiet_nil ?_
                rintro _ ⟨gw, rfl⟩
                obtain ⟨wg, hbg⟩ := gw
                dsimp only
                clear e0g e1g e2g e3g
                go_wp2
                go_roundw
                case rel => exact ⟨k + 1, by omega, by go_num, hB.trans ((below_via hbg hW).mono hB.size)⟩
                case measure => simp [intOf]; omega
              · have q1 : decide (m < 1125899906842624) = false := decide_eq_false hm2
                go_wp2
                refine wp_region_grew (by kernel_rfl) (by kernel_rfl) ?_
                repeat (go_big_quiet_step (first | (go_at_call 18; exact Calls.grew_of (GK _)) | (go_at_call 20; exact Calls.grew_of (chance_impl rf rt rl rp _ _))))
                refine wpQuiet_nil ?_
                rintro _ ⟨gw, rfl⟩
                obtain ⟨wg, hbg⟩ := gw
                dsimp only
                clear e0g e1g e2g e3g
                go_wp2
                go_roundw
                case rel => exact ⟨k + 1, by omega, by go_num, hB.trans ((below_via hbg hW).mono hB.size)⟩
                case measure => simp [intOf]; omega
            · have q1 : decide (0 < m) = false := decide_eq_false hm
              go_wp2
              refine wp_region_grew (by kernel_rfl) (by kernel_rfl) ?_
              repeat (go_big_quiet_step (first | (go_at_call 18; exact Calls.grew_of (GK _)) | (go_at_call 20; exact Calls.grew_of (chance_impl rf rt rl rp _ _))))
              refine wpQuiet_nil ?_
              rintro _ ⟨gw, rfl⟩
              obtain ⟨wg, hbg⟩ := gw
              dsimp only
              clear e0g e1g e2g e3g
              go_wp2
              go_roundw
              case rel => exact ⟨k + 1, by omega, by go_num, hB.trans ((below_via hbg hW).mono hB.size)⟩
              case measure => simp [intOf]; omega
          · have q1 : decide (rp < 1125899906842624) = false := decide_eq_false hp
            go_wp2
            refine wp_region_grew (by kernel_rfl) (by kernel_rfl) ?_
            repeat (go_big_quiet_step (first | (go_at_call 18; exact Calls.grew_of (GK _)) | (go_at_call 20; exact Calls.grew_of (chance_impl rf rt rl rp _ _))))
            refine wpQuiet_nil ?_
            rintro _ ⟨gw, rfl⟩
            obtain ⟨wg, hbg⟩ := gw
            dsimp only
            clear e0g e1g e2g e3g
            go_wp2
            go_roundw
            case rel => exact ⟨k + 1, by omega, by go_num, hB.trans ((below_via hbg hW).mono hB.size)⟩
            case measure => simp [intOf]; omega
        · have GK := fun w => guessOk_spec rf rt rl rp w
          simp only [hgk] at GK
          go_wp2
          refine wp_region_grew (by kernel_rfl) (by kernel_rfl) ?_
          repeat (go_big_quiet_step (first | (go_at_call 18; exact Calls.grew_of (GK _)) | (go_at_call 20; exact Calls.grew_of (chance_impl rf rt rl rp _ _))))
          refine wpQuiet_nil ?_
          rintro _ ⟨gw, rfl⟩
          obtain ⟨wg, hbg⟩ := gw
          dsimp only
          clear e0g e1g e2g e3g
          go_wp2
          go_roundw
          case rel => exact ⟨k + 1, by omega, by go_num, hB.trans ((below_via hbg hW).mono hB.size)⟩
          case measure => simp [intOf]; omega
      · go_wp2
        go_ret
        exact ⟨rfl, B3.trans (hB.mono B3.size)⟩
  · go_enter Try.func5, Try.ntmps5
    go_wp2
    go_ret
    exact ⟨rfl, Below.refl _ _⟩

end Go.Proofs.Ytegnlijgjcfmlaa
