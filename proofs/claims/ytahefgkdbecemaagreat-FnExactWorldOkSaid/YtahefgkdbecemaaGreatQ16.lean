/- The walks and the laws they lean on. -/
import Derived.Test.YtahefgkdbecemaaGreatQ8
import Derived.Test.YtahefgkdbecemaaGreatQ15
namespace Go.Proofs.YtahefgkdbecemaaGreat
open Go.RowKit
set_option linter.unusedVariables false
set_option linter.unusedSimpArgs false
set_option maxRecDepth 100000
set_option maxHeartbeats 12800000
theorem A0f {k key ch too amt fee:Int} {yes:Bool} (h:Ah k key ch too amt fee yes=true):1≤k∧k≤11:=by
 exact ZU
theorem Xm {e:Ev} (h:e.good=true):(1≤e.kind∧e.kind≤11)∧(0≤e.key∧e.key≤1000000)∧(0≤e.ch∧e.ch≤99)∧(0≤e.tw∧e.tw≤99)∧(0≤e.amt∧e.amt≤1125899906842624)∧(0≤e.fee∧e.fee≤1125899906842624):=by
 obtain ⟨k,key,ch,too,amt,fee,yes⟩:=e;unfold Ev.good at h;simp only at h ⊢;have hk:=A0f h;refine ⟨hk,?_⟩;exact ZV
theorem AK.lit2 (w:World) (b1 b2:UInt8) (x1 x2:Int) (h1:x1=(b1.toNat:Int)) (h2:x2=(b2.toNat:Int)):AK (w.alloc (.cells #[.int .u8 x1, .int .u8 x2] 5)) w (.slice (some ⟨w,0,none⟩) 2 2) [b1,b2]:=by
 subst h1;subst h2;exact ⟨rfl, .inr ⟨w,2, #[.int .u8 b1.toNat, .int .u8 b2.toNat],rfl,Nat.le_refl _,heap_alloc_new w _,Nat.le_refl _,FD,rfl,rfl⟩⟩
theorem QR (n:Nat):((n:Int) % 256)=((UInt8.ofNat n).toNat:Int):=by rw [UInt8.toNat_ofNat'];omega
theorem wC (kd ky ch tt am fe:Nat) (ys:Bool):Ep ⟨kd,ky,ch,tt,am,fe,ys⟩ = [69,UInt8.ofNat kd] ++ be ky 3 ++ [UInt8.ofNat ch,UInt8.ofNat tt] ++ be am 7 ++ be fe 7 ++ [if ys=true then 1 else 0]:=by
 unfold Ep;simp only [Int.toNat_natCast]
theorem yr (kd ky ch tt am fe:Int) (ys:Bool) (w:World) (hg:Ah kd ky ch tt am fe ys=false):Calls Tryz.prog 180 #[.agg #[kd,ky,ch,tt,am,fe,ys]] w fun e w'=>e = .returned (.tuple #[.slice none 0 0,false])∧Below w w w':=by
 have hok:=lH hg;clear hg;go_enter Tryz.func180,Tryz.ntmps180
 go_wp2_with fail
 refine (Qs kd ky ch tt am fe ys _).mono ?_;rintro e w1 ⟨rfl,b1⟩;rw [hok.out];have B1:Below w w w1:=AD b1 (bW);go_wp2_with fail
 refine bodyPost_ret aD rfl ?_;exact ⟨rfl,B1⟩
theorem ul (kd ky ch tt am fe:Int) (ys:Bool) (w:World) (hg:Ah kd ky ch tt am fe ys=false):Calls Tryz.prog 159 #[.agg #[kd,ky,ch,tt,am,fe,ys]] w fun e w'=>e = .returned (.tuple #[.slice none 0 0,false])∧Below w w w':=by
 have hok:=lH hg;clear hg;go_enter Tryz.func159,Tryz.ntmps159
 go_wp2_with fail
 refine (QV kd ky ch tt am fe ys _).mono ?_;rintro e w1 ⟨rfl,b1⟩;rw [hok.out];have B1:Below w w w1:=AD b1 (bW);go_wp2_with fail
 refine bodyPost_ret aE rfl ?_;exact ⟨rfl,B1⟩
theorem zH (kd ky ch tt am fe:Nat) (ys:Bool) (w:World) (hg:(⟨kd,ky,ch,tt,am,fe,ys⟩:Ev).good=true):Calls Tryz.prog 180 #[.agg #[.int .i64 (kd:Int), .int .i64 (ky:Int), .int .i64 (ch:Int), .int .i64 (tt:Int), .int .i64 (am:Int), .int .i64 (fe:Int),ys]] w fun e w'=>(∃ v',e = .returned (.tuple #[v',true])∧AK w' w v' (Ep ⟨kd,ky,ch,tt,am,fe,ys⟩))∧Below w w w':=by
 have A3q:=trivial;exact aF
end Go.Proofs.YtahefgkdbecemaaGreat
