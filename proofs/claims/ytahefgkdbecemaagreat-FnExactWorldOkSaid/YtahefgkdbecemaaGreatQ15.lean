/- The walks and the laws they lean on. -/
import Derived.Test.YtahefgkdbecemaaGreatQ14
namespace Go.Proofs.YtahefgkdbecemaaGreat
open Go.RowKit
set_option linter.unusedVariables false
set_option linter.unusedSimpArgs false
set_option maxRecDepth 100000
set_option maxHeartbeats 12800000
theorem xA (key ch too amt fee:Int) (yes:Bool) (w:World):Calls Tryz.prog 169 #[.agg #[.int .i64 1,key,ch,too,amt,fee,yes]] w fun e w'=>e = .returned (Ah 1 key ch too amt fee yes)∧Below w w w':=by
 have hr:=lH (Mq key ch too amt fee yes);exact Ic
theorem vh (key ch too amt fee:Int) (yes:Bool) (w:World):Calls Tryz.prog 169 #[.agg #[.int .i64 2,key,ch,too,amt,fee,yes]] w fun e w'=>e = .returned (Ah 2 key ch too amt fee yes)∧Below w w w':=by
 have hr:=lH (NK key ch too amt fee yes);exact Lb
theorem wy (key ch too amt fee:Int) (yes:Bool) (w:World):Calls Tryz.prog 169 #[.agg #[.int .i64 3,key,ch,too,amt,fee,yes]] w fun e w'=>e = .returned (Ah 3 key ch too amt fee yes)∧Below w w w':=by
 have hr:=lH (Kt key ch too amt fee yes);exact Lb
theorem vf (key ch too amt fee:Int) (yes:Bool) (w:World):Calls Tryz.prog 169 #[.agg #[.int .i64 4,key,ch,too,amt,fee,yes]] w fun e w'=>e = .returned (Ah 4 key ch too amt fee yes)∧Below w w w':=by
 have hr:=lH (MY key ch too amt fee yes);exact Lb
theorem xD (key ch too amt fee:Int) (yes:Bool) (w:World):Calls Tryz.prog 169 #[.agg #[.int .i64 6,key,ch,too,amt,fee,yes]] w fun e w'=>e = .returned (Ah 6 key ch too amt fee yes)∧Below w w w':=by
 have hr:=lH (Py key ch too amt fee yes);exact Ic
theorem tv (key ch too amt fee:Int) (yes:Bool) (w:World):Calls Tryz.prog 169 #[.agg #[.int .i64 7,key,ch,too,amt,fee,yes]] w fun e w'=>e = .returned (Ah 7 key ch too amt fee yes)∧Below w w w':=by
 have hr:=lH (QI key ch too amt fee yes);exact Ic
theorem zc (key ch too amt fee:Int) (yes:Bool) (w:World):Calls Tryz.prog 169 #[.agg #[.int .i64 8,key,ch,too,amt,fee,yes]] w fun e w'=>e = .returned (Ah 8 key ch too amt fee yes)∧Below w w w':=by
 have hr:=lH (Xg key ch too amt fee yes);exact Ic
theorem A0Z (key ch too amt fee:Int) (yes:Bool) (w:World):Calls Tryz.prog 169 #[.agg #[.int .i64 10,key,ch,too,amt,fee,yes]] w fun e w'=>e = .returned (Ah 10 key ch too amt fee yes)∧Below w w w':=by
 have hr:=lH (QD key ch too amt fee yes);exact Ic
theorem xN (key ch too amt fee:Int) (yes:Bool) (w:World):Calls Tryz.prog 169 #[.agg #[.int .i64 11,key,ch,too,amt,fee,yes]] w fun e w'=>e = .returned (Ah 11 key ch too amt fee yes)∧Below w w w':=by
 have hr:=lH (Pf key ch too amt fee yes);exact Ic
theorem wR (key ch too amt fee:Int) (yes:Bool) (w:World):Calls Tryz.prog 169 #[.agg #[.int .i64 5,key,ch,too,amt,fee,yes]] w fun e w'=>e = .returned (Ah 5 key ch too amt fee yes)∧Below w w w':=by
 have hr:=lH (Mt key ch too amt fee yes);exact Lb
theorem vr (key ch too amt fee:Int) (yes:Bool) (w:World):Calls Tryz.prog 169 #[.agg #[.int .i64 9,key,ch,too,amt,fee,yes]] w fun e w'=>e = .returned (Ah 9 key ch too amt fee yes)∧Below w w w':=by
 have hr:=lH (NJ key ch too amt fee yes);exact Lb
abbrev PtS (g:Nat):=FS (fun (j:Nat) => [Value.pointer (some ⟨g,j,none⟩)]) 1 (fun _=>True)
theorem Qs (k key ch too amt fee:Int) (yes:Bool) (w:World):Calls Tryz.prog 169 #[.agg #[k,key,ch,too,amt,fee,yes]] w fun e w'=>e = .returned (Ah k key ch too amt fee yes)∧Below w w w':=by
 rcases (show k=1∨k=2∨k=3∨k=4∨k=5∨k=6∨k=7∨k=8∨k=9∨k=10∨k=11∨(k≠1∧k≠2∧k≠3∧k≠4∧k≠5∧k≠6∧k≠7∧k≠8∧k≠9∧k≠10∧k≠11) by omega) with rfl | rfl | rfl | rfl | rfl | rfl | rfl | rfl | rfl | rfl | rfl | ⟨g1,g2,g3,g4,g5,g6,g7,g8,g9,g10,g11⟩
 ·exact xA key ch too amt fee yes w
 ·exact vh key ch too amt fee yes w
 ·exact wy key ch too amt fee yes w
 ·exact vf key ch too amt fee yes w
 ·exact wR key ch too amt fee yes w
 ·exact xD key ch too amt fee yes w
 ·exact tv key ch too amt fee yes w
 ·exact zc key ch too amt fee yes w
 ·exact vr key ch too amt fee yes w
 ·exact A0Z key ch too amt fee yes w
 ·exact xN key ch too amt fee yes w
 have hr:Hid (Ah k key ch too amt fee yes=false):=by unfold Hid Ah;rw [decide_eq_false oM];rfl
 have A3p:=trivial;exact Ic
end Go.Proofs.YtahefgkdbecemaaGreat
