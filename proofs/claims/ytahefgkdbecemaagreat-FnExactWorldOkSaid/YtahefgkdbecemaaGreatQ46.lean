/- The walks and the laws they lean on. -/
import Derived.Test.YtahefgkdbecemaaGreatQ12
import Derived.Test.YtahefgkdbecemaaGreatQ19
namespace Go.Proofs.YtahefgkdbecemaaGreat
open Go.RowKit
set_option linter.unusedVariables false
set_option linter.unusedSimpArgs false
set_option maxRecDepth 100000
set_option maxHeartbeats 12800000
theorem yb (c d x y z l p q:Value) (h:Hb) (w:World) (V:HbV w w c d x y z l p q h):Calls Tryz.prog 47 #[.agg #[c,d,h.log.next,h.log.epoch,h.book.tick,h.book.next,h.book.wallet,x,y,z,h.ledger.last,l,p,q]] w fun e w'=>(∃ r,e = .returned (.bool r)∧(r=true↔h=Hb.zero))∧Below w w w':=by
 obtain ⟨ac,nc,cc,rfl,-,-,-,-,-⟩:=V.log.disk.cells.at_;obtain ⟨ad,nd,cd,rfl,-,-,-,-,-⟩:=V.log.disk.dirty.at_;obtain ⟨ax,nx,cx,rfl,hnx,-⟩:=VS.form V.book.chans;obtain ⟨ay,ny,cy,rfl,hny,-⟩:=VS.form V.book.htlcs;obtain ⟨az,nz,cz,rfl,hnz,-⟩:=VS.form V.book.circles;obtain ⟨al,nl,cl,rfl,hnl,-⟩:=VS.form V.ledger.lines;obtain ⟨ap,np,cp,rfl,hnp,-⟩:=VS.form V.wait;obtain ⟨aq,nq,cq,rfl,hnq,-⟩:=VS.form V.sent;have hnpB:=VS.lenB V.wait;have hnqB:=VS.lenB V.sent;go_enter Tryz.func47,Tryz.ntmps47
 go_upto_region 1 with fail
 have A46:=trivial;exact cM
end Go.Proofs.YtahefgkdbecemaaGreat
