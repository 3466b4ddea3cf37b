/- The law on steps read walked. -/
import Derived.Test.YtjkcfjhjbjcfcaaDoorTstI
import Derived.Test.YtjkcfjhjbjcfcaaDoorTstS
import Derived.Test.YtjkcfjhjbjcfcaaDoorTstM
namespace Go.Proofs.YtjkcfjhjbjcfcaaDoor
open Go.RowKit
set_option linter.unusedVariables false
set_option linter.unusedSimpArgs false

theorem ts_keep (l : List UInt8) (hl : l.length ≤ 1048576) : (ts l).keep.length ≤ 1048576 ∧ ∀ n ∈ (ts l).keep, -1125899906842624 ≤ n ∧ n ≤ 1125899906842624 := by
  have hw : (tvals (words l)).length ≤ 1048576 := by
    have := wordsGo_len l []
    unfold tvals
    rw [List.length_map, List.length_drop]
    show (wordsGo [] l).length - 1 ≤ _
    omega
  have hn : (numsI (words l)).length ≤ 1048576 := by
    unfold numsI
    split
    · exact hw
    · exact Nat.zero_le _
  cases h : tsOk l with
  | false => rw [ts_no h]; exact ⟨Nat.zero_le _, fun n hn => by cases hn⟩
  | true =>
    rw [ts_yes h]
    unfold tsI tsOf
    split
    · exact ⟨Nat.zero_le _, fun n hn => by cases hn⟩
    · split
      · exact ⟨Nat.zero_le _, fun n hn => by cases hn⟩
      · split
        · exact ⟨Nat.zero_le _, fun n hn => by cases hn⟩
        · split
          · exact ⟨hn, numsI_bd _⟩
          · split
            · unfold rule5; split <;> exact ⟨Nat.zero_le _, fun n hn => by cases hn⟩
            · exact ⟨Nat.zero_le _, fun n hn => by cases hn⟩
theorem own_oi {w : World} {B : Nat} {a : Option Addr} {c : Nat} {xs : List Int} (h : OwnI w B (.slice a xs.length c) xs) (hm : ∀ n ∈ xs, -1125899906842624 ≤ n ∧ n ≤ 1125899906842624) : OI w B a xs.length c xs := ⟨h, rfl, fun n hn => by have := hm n hn; omega⟩
set_option maxRecDepth 100000 in
set_option maxHeartbeats 3200000 in
theorem walk_FnExactTextStep (s : ByteArray) (hs : s.size ≤ maxLen) (w : World) (T0 : LV w) :
    Calls Tryd.prog 3 #[.string s] w fun e w' => e = .returned (.bool true) ∧ Below w.heap.size w w' := by
  have hs2 : s.size ≤ 9223372036854775807 := by unfold maxLen at hs; omega
  clear hs
  by_cases h : (1048576 : Int) < (s.size : Int)
  · go_enter Tryd.func3, Tryd.ntmps3
    go_wp2_with fail
    go_ret
    exact ⟨rfl, by (repeat (first | (with_reducible exact Below.refl _ _) | (with_reducible assumption) | (with_reducible refine Below.setCell ?_ ?side _; case side => first | (with_reducible exact Nat.le_refl _) | (simp; done) | (simp only [World.size_alloc, World.size_setCell, World.size_drew, World.heap_drewN] at *; omega)) | (with_reducible refine below_alloc ?_ _) | (with_reducible refine Below.drew ?_) | (with_reducible refine below_drewN ?_) | (with_reducible refine below_via (by assumption) ?_)))⟩
  · have hs : s.size ≤ 1048576 := by omega
    have hK := ts_keep s.data.toList (by rw [Array.length_toList]; exact hs)
    obtain ⟨X, hX⟩ : ∃ X, X = ts s.data.toList := ⟨_, rfl⟩
    obtain ⟨ok, hok⟩ : ∃ ok, ok = tsOk s.data.toList := ⟨_, rfl⟩
    have HX := Lib.hid (And.intro hX hok)
    rw [← hX] at hK
    have HK := Lib.hid hK
    obtain ⟨hk1, -⟩ := hK
    obtain ⟨len, hlen⟩ : ∃ n, X.keep.length = n := ⟨_, rfl⟩
    have HL := Lib.hid hlen
    rw [hlen] at hk1
    have hcells : Hid (∀ a c, X.cells a c = [.int .i64 X.kind, .int .i64 X.ev.kind, .int .i64 X.ev.key, .int .i64 X.ev.ch, .int .i64 X.ev.to, .int .i64 X.ev.amt, .int .i64 X.ev.fee, .bool X.ev.yes, .slice a len c, .int .i64 X.lo, .int .i64 X.hi, .int .i64 X.step, .int .i64 X.mn, .int .i64 X.mx]) := fun a c => by unfold St.cells; rw [hlen]
    clear hX hok hlen
    go_enter Tryd.func3, Tryd.ntmps3
    go_wp2_with fail
    refine (textStep_spec s hs _).mono ?_
    rintro e w1 ⟨⟨a0, c0, he, O0⟩, b1⟩
    rw [← HX.out.1, ← HX.out.2, hcells.out] at he
    rw [← HX.out.1] at O0
    subst he
    have I0 := OI.is (own_oi O0 HK.out.2)
    rw [HL.out] at I0
    have RA := Row.new w1 #[.int .i64 X.kind, .int .i64 X.ev.kind, .int .i64 X.ev.key, .int .i64 X.ev.ch, .int .i64 X.ev.to, .int .i64 X.ev.amt, .int .i64 X.ev.fee, .bool X.ev.yes, .slice a0 len c0, .int .i64 X.lo, .int .i64 X.hi, .int .i64 X.step, .int .i64 X.mn, .int .i64 X.mx] 28
    have bA := below_alloc (Below.refl _ w1) (.cells #[.int .i64 X.kind, .int .i64 X.ev.kind, .int .i64 X.ev.key, .int .i64 X.ev.ch, .int .i64 X.ev.to, .int .i64 X.ev.amt, .int .i64 X.ev.fee, .bool X.ev.yes, .slice a0 len c0, .int .i64 X.lo, .int .i64 X.hi, .int .i64 X.step, .int .i64 X.mn, .int .i64 X.mx] 28)
    have IA := IS.keep I0 bA
    have BA := below_via bA b1
    have zwA := BA.size
    have TA := T0.keep BA
    have zA := RA.lt (by simp)
    clear O0 I0 b1 bA
    go_upto_region 4 with fail
    generalize w1.alloc (.cells #[.int .i64 X.kind, .int .i64 X.ev.kind, .int .i64 X.ev.key, .int .i64 X.ev.ch, .int .i64 X.ev.to, .int .i64 X.ev.amt, .int .i64 X.ev.fee, .bool X.ev.yes, .slice a0 len c0, .int .i64 X.lo, .int .i64 X.hi, .int .i64 X.step, .int .i64 X.mn, .int .i64 X.mx] 28) = WA at *
    go_wp2_with fail
    refine (textStep_impl s hs _ TA).mono ?_
    rintro e w2 ⟨⟨a2, c2, he, O2⟩, b2⟩
    rw [← HX.out.1, ← HX.out.2, hcells.out] at he
    rw [← HX.out.1] at O2
    subst he
    have P2 := own_oi O2 HK.out.2
    rw [HL.out] at P2
    clear O2
    have hbl : Hid (∀ k, (Value.slice a2 len c2).ownBlock = some k → WA.heap.size ≤ k ∧ k < w2.heap.size) := fun k hk => P2.1.lt k hk
    have bB := below_alloc (Below.refl _ w2) (.cells #[.int .i64 X.kind, .int .i64 X.ev.kind, .int .i64 X.ev.key, .int .i64 X.ev.ch, .int .i64 X.ev.to, .int .i64 X.ev.amt, .int .i64 X.ev.fee, .bool X.ev.yes, .slice a2 len c2, .int .i64 X.lo, .int .i64 X.hi, .int .i64 X.step, .int .i64 X.mn, .int .i64 X.mx] 28)
    have cB := below_via bB b2
    have RB := Row.new w2 #[.int .i64 X.kind, .int .i64 X.ev.kind, .int .i64 X.ev.key, .int .i64 X.ev.ch, .int .i64 X.ev.to, .int .i64 X.ev.amt, .int .i64 X.ev.fee, .bool X.ev.yes, .slice a2 len c2, .int .i64 X.lo, .int .i64 X.hi, .int .i64 X.step, .int .i64 X.mn, .int .i64 X.mx] 28
    have RAB := RA.keep (by simp) cB
    have IAB := IS.keepB IA cB (Nat.le_refl _)
    have PB := OI.keep P2 bB
    have BB := below_via cB BA
    have zB := RB.lt (by simp)
    have zAB := cB.size
    have z2 := b2.size
    clear P2 RA IA BA TA b2 bB cB
    go_upto_region 5 with fail
    generalize w2.alloc (.cells #[.int .i64 X.kind, .int .i64 X.ev.kind, .int .i64 X.ev.key, .int .i64 X.ev.ch, .int .i64 X.ev.to, .int .i64 X.ev.amt, .int .i64 X.ev.fee, .bool X.ev.yes, .slice a2 len c2, .int .i64 X.lo, .int .i64 X.hi, .int .i64 X.step, .int .i64 X.mn, .int .i64 X.mx] 28) = WB at *
    have GA := RAB.range
    have GB := RB.range
    have IB := OI.is PB
    go_wp2_with (first | ((show Go.wpList _ _ _ ((Go.Oper.mk _ (Go.Op.load 28 _) _ _ _ _) :: _) _ _); refine wpList_load_mid rfl 28 _ rfl w2.heap.size 0 rfl [.int .i64 X.kind, .int .i64 X.ev.kind, .int .i64 X.ev.key, .int .i64 X.ev.ch, .int .i64 X.ev.to, .int .i64 X.ev.amt, .int .i64 X.ev.fee, .bool X.ev.yes, .slice a2 len c2, .int .i64 X.lo, .int .i64 X.hi, .int .i64 X.step, .int .i64 X.mn, .int .i64 X.mx] _ GB Tryd.underlying28 rfl infoSt ?_) | ((show Go.wpList _ _ _ ((Go.Oper.mk _ (Go.Op.load 28 _) _ _ _ _) :: _) _ _); refine wpList_load_mid rfl 28 _ rfl w1.heap.size 0 rfl [.int .i64 X.kind, .int .i64 X.ev.kind, .int .i64 X.ev.key, .int .i64 X.ev.ch, .int .i64 X.ev.to, .int .i64 X.ev.amt, .int .i64 X.ev.fee, .bool X.ev.yes, .slice a0 len c0, .int .i64 X.lo, .int .i64 X.hi, .int .i64 X.step, .int .i64 X.mn, .int .i64 X.mx] _ GA Tryd.underlying28 rfl infoSt ?_))
    refine (eqStep_any _ _ _ _ _ _ _ _ _ _ _ _ _ _ _ _ _ _ X.keep _ IB (IAB.mono (by omega))).mono ?_
    rintro e w3 ⟨rfl, b3⟩
    have RA3 := RAB.keep (by simp) b3
    have RB3 := RB.keep (by simp) b3
    have IA3 := IS.keepB IAB b3 (by omega)
    have P3 := OI.keep PB b3
    have B3 := below_via b3 BB
    have z3 := b3.size
    clear RAB RB IAB PB BB b3 IB GA GB
    have GB := RB3.range
    go_wp2_with (first | ((show Go.wpList _ _ _ ((Go.Oper.mk _ (Go.Op.load 28 _) _ _ _ _) :: _) _ _); refine wpList_load_mid rfl 28 _ rfl w2.heap.size 0 rfl [.int .i64 X.kind, .int .i64 X.ev.kind, .int .i64 X.ev.key, .int .i64 X.ev.ch, .int .i64 X.ev.to, .int .i64 X.ev.amt, .int .i64 X.ev.fee, .bool X.ev.yes, .slice a2 len c2, .int .i64 X.lo, .int .i64 X.hi, .int .i64 X.step, .int .i64 X.mn, .int .i64 X.mx] _ GB Tryd.underlying28 rfl infoSt ?_))
    refine (markStep_any WA.heap.size _ _ _ _ _ _ _ _ _ _ _ _ _ _ _ _ X.keep 1 _ P3 (by omega) (by omega) (by omega) (by omega)).mono ?_
    rintro e w4 ⟨rfl, P4, b4, g4⟩
    have RA4 := RA3.keepO (by simp) g4 (fun h => by have := hbl.out _ h; omega)
    have RB4 := RB3.keepO (by simp) g4 (fun h => by have := hbl.out _ h; omega)
    have IA4 := IS.keepO IA3 g4 (fun k h => by have := hbl.out _ h; omega)
    have B4 : Below w.heap.size w w4 := B3.trans ⟨b4.os, b4.tape, b4.output, b4.size, fun k hk => b4.block k (by have := B3.size; omega)⟩
    have z4 := g4.size
    clear RA3 RB3 IA3 P3 B3 b4 g4 GB
    have GB := RB4.range
    have I4 := OI.is P4
    have hq1 : (0 : Int) ≤ 1 + (len : Int) := by omega
    go_wp2_with (first | ((show Go.wpList _ _ _ ((Go.Oper.mk _ (Go.Op.load 28 _) _ _ _ _) :: _) _ _); refine wpList_load_mid rfl 28 _ rfl w2.heap.size 0 rfl [.int .i64 X.kind, .int .i64 X.ev.kind, .int .i64 X.ev.key, .int .i64 X.ev.ch, .int .i64 X.ev.to, .int .i64 X.ev.amt, .int .i64 X.ev.fee, .bool X.ev.yes, .slice a2 len c2, .int .i64 X.lo, .int .i64 X.hi, .int .i64 X.step, .int .i64 X.mn, .int .i64 X.mx] _ GB Tryd.underlying28 rfl infoSt ?_))
    refine (heldStep_any _ _ _ _ _ _ _ _ _ _ _ _ _ _ _ _ 1 _ I4 (by omega) (by omega) (by omega)).mono ?_
    rintro e w5 ⟨rfl, b5⟩
    have RA5 := RA4.keep (by simp) b5
    have RB5 := RB4.keep (by simp) b5
    have IA5 := IS.keepB IA4 b5 (by omega)
    have P5 := OI.keep P4 b5
    have B5 := below_via b5 B4
    have z5 := b5.size
    clear RA4 RB4 IA4 P4 B4 I4 GB b5
    have hq2 : ¬ (1 + (len : Int) < 0) := by omega
    go_upto_region 15 with fail
    go_wp2_with fail
    refine (textStep_impl s hs _ (T0.keep B5)).mono ?_
    rintro e w6 ⟨⟨a6, c6, he, O6⟩, b6⟩
    rw [← HX.out.1, ← HX.out.2, hcells.out] at he
    rw [← HX.out.1] at O6
    subst he
    have P6 := own_oi O6 HK.out.2
    rw [HL.out] at P6
    clear O6
    have bC := below_alloc (Below.refl _ w6) (.cells #[.int .i64 X.kind, .int .i64 X.ev.kind, .int .i64 X.ev.key, .int .i64 X.ev.ch, .int .i64 X.ev.to, .int .i64 X.ev.amt, .int .i64 X.ev.fee, .bool X.ev.yes, .slice a6 len c6, .int .i64 X.lo, .int .i64 X.hi, .int .i64 X.step, .int .i64 X.mn, .int .i64 X.mx] 28)
    have cC := below_via bC b6
    have RC := Row.new w6 #[.int .i64 X.kind, .int .i64 X.ev.kind, .int .i64 X.ev.key, .int .i64 X.ev.ch, .int .i64 X.ev.to, .int .i64 X.ev.amt, .int .i64 X.ev.fee, .bool X.ev.yes, .slice a6 len c6, .int .i64 X.lo, .int .i64 X.hi, .int .i64 X.step, .int .i64 X.mn, .int .i64 X.mx] 28
    have RA7 := RA5.keep (by simp) cC
    have RB7 := RB5.keep (by simp) cC
    have IA7 := IS.keepB IA5 cC (by omega)
    have P7 := OI.keep P5 cC
    have Q7 := OI.keep P6 bC
    have B7 := below_via cC B5
    have z7 := cC.size
    have zC := RC.lt (by simp)
    clear RA5 RB5 IA5 P5 B5 P6 bC cC b6
    go_upto_region 16 with fail
    generalize w6.alloc (.cells #[.int .i64 X.kind, .int .i64 X.ev.kind, .int .i64 X.ev.key, .int .i64 X.ev.ch, .int .i64 X.ev.to, .int .i64 X.ev.amt, .int .i64 X.ev.fee, .bool X.ev.yes, .slice a6 len c6, .int .i64 X.lo, .int .i64 X.hi, .int .i64 X.step, .int .i64 X.mn, .int .i64 X.mx] 28) = WC at *
    have GA := RA7.range
    have GC := RC.range
    have IC := OI.is Q7
    go_wp2_with (first | ((show Go.wpList _ _ _ ((Go.Oper.mk _ (Go.Op.load 28 _) _ _ _ _) :: _) _ _); refine wpList_load_mid rfl 28 _ rfl w6.heap.size 0 rfl [.int .i64 X.kind, .int .i64 X.ev.kind, .int .i64 X.ev.key, .int .i64 X.ev.ch, .int .i64 X.ev.to, .int .i64 X.ev.amt, .int .i64 X.ev.fee, .bool X.ev.yes, .slice a6 len c6, .int .i64 X.lo, .int .i64 X.hi, .int .i64 X.step, .int .i64 X.mn, .int .i64 X.mx] _ GC Tryd.underlying28 rfl infoSt ?_) | ((show Go.wpList _ _ _ ((Go.Oper.mk _ (Go.Op.load 28 _) _ _ _ _) :: _) _ _); refine wpList_load_mid rfl 28 _ rfl w1.heap.size 0 rfl [.int .i64 X.kind, .int .i64 X.ev.kind, .int .i64 X.ev.key, .int .i64 X.ev.ch, .int .i64 X.ev.to, .int .i64 X.ev.amt, .int .i64 X.ev.fee, .bool X.ev.yes, .slice a0 len c0, .int .i64 X.lo, .int .i64 X.hi, .int .i64 X.step, .int .i64 X.mn, .int .i64 X.mx] _ GA Tryd.underlying28 rfl infoSt ?_))
    refine (eqStep_any _ _ _ _ _ _ _ _ _ _ _ _ _ _ _ _ _ _ X.keep _ IC (IA7.mono (by omega))).mono ?_
    rintro e w8 ⟨rfl, b8⟩
    have RB8 := RB7.keep (by simp) b8
    have P8 := OI.keep P7 b8
    have B8 := below_via b8 B7
    clear RA7 RB7 IA7 P7 Q7 B7 b8 RC GA GC IC
    have GB := RB8.range
    have I8 := OI.is P8
    go_wp2_with (first | ((show Go.wpList _ _ _ ((Go.Oper.mk _ (Go.Op.load 28 _) _ _ _ _) :: _) _ _); refine wpList_load_mid rfl 28 _ rfl w2.heap.size 0 rfl [.int .i64 X.kind, .int .i64 X.ev.kind, .int .i64 X.ev.key, .int .i64 X.ev.ch, .int .i64 X.ev.to, .int .i64 X.ev.amt, .int .i64 X.ev.fee, .bool X.ev.yes, .slice a2 len c2, .int .i64 X.lo, .int .i64 X.hi, .int .i64 X.step, .int .i64 X.mn, .int .i64 X.mx] _ GB Tryd.underlying28 rfl infoSt ?_))
    refine (heldStep_any _ _ _ _ _ _ _ _ _ _ _ _ _ _ _ _ 1 _ I8 (by omega) (by omega) (by omega)).mono ?_
    rintro e w9 ⟨rfl, b9⟩
    have B9 := below_via b9 B8
    clear RB8 P8 I8 GB b9 B8
    go_wp2_with fail
    go_ret
    exact ⟨rfl, B9⟩

end Go.Proofs.YtjkcfjhjbjcfcaaDoor
