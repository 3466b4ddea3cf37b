/- The book, the hub, the world: the plain part. -/
import Derived.Test.YtafbdbefmlgioaaGreatDoorSChan
import Derived.Test.YtafbdbefmlgioaaGreatDoorSHtlc
import Derived.Test.YtafbdbefmlgioaaGreatDoorSCircle
import Derived.Test.YtafbdbefmlgioaaGreatDoorModD
import Derived.Test.YtafbdbefmlgioaaGreatDoorModL
import Derived.Test.YtafbdbefmlgioaaGreatDoorFee
import Derived.Test.YtafbdbefmlgioaaGreatDoorAdd
namespace Go.Proofs.YtafbdbefmlgioaaGreatDoor
open Go.RowKit
set_option linter.unusedVariables false
set_option linter.unusedSimpArgs false

structure Bk where
  tick : Int
  next : Int
  wallet : Int
  chans : List Cn
  htlcs : List Ht
  circles : List Ci
def Bk.zero : Bk := ⟨0, 0, 0, [], [], []⟩
def Bk.new : Bk := ⟨0, 1, 0, [], [], []⟩
def Cn.zero : Cn := ⟨0, 0, 0, 0, 0, 0, 0⟩
def Ht.zero : Ht := ⟨0, 0, 0, 0, 0, false, 0⟩
def Ci.zero : Ci := ⟨0, 0, 0, 0, 0⟩
def Po.zero : Po := ⟨0, []⟩
def hOut (ch : Int) (h : Ht) : Int := if h.out = ch then h.aout else 0
def hIn (ch : Int) (h : Ht) : Int := if h.inn = ch then h.ain else 0
def cOut (ch : Int) (c : Ci) : Int := if c.frm = ch then c.amt + c.fee else 0
def cIn (ch : Int) (c : Ci) : Int := if c.to = ch then c.amt else 0
def outB (b : Bk) (ch : Int) : Int := (b.htlcs.map (hOut ch)).sum + (b.circles.map (cOut ch)).sum
def intoB (b : Bk) (ch : Int) : Int := (b.htlcs.map (hIn ch)).sum + (b.circles.map (cIn ch)).sum
def hasC (l : List Cn) (ch : Int) : Bool := l.any fun c => decide (c.id = ch)
def chanI (l : List Cn) (ch : Int) : Int := match l.findIdx? fun c => decide (c.id = ch) with
  | some i => i
  | none => -1
def getC (l : List Cn) (ch : Int) : Cn := (l.find? fun c => decide (c.id = ch)).getD Cn.zero
def apartB (l : List Cn) (x y : Int) : Bool := !decide (x = y) && (hasC l x && hasC l y)
def htOk (l : List Cn) (h : Ht) : Bool := amtOk h.ain && decide (1 ≤ h.aout ∧ h.aout ≤ h.ain) && amtOk h.age && apartB l h.inn h.out
def ciOk (l : List Cn) (c : Ci) : Bool := amtOk c.amt && decide (1 ≤ c.amt) && amtOk c.fee && apartB l c.frm c.to
def keysB (b : Bk) : List Int := b.htlcs.map (·.key) ++ b.circles.map (·.key)
def hasI (l : List Int) (n : Int) : Bool := l.any fun x => decide (x = n)
/-- keys that are right, none of them twice -/
def keysGo : List Int → List Int → Bool
  | _, [] => true
  | seen, k :: r => keyOk k && !hasI seen k && keysGo (seen ++ [k]) r
def keysOk (l : List Int) : Bool := keysGo [] l
def partsOk (b : Bk) : Bool := decide (b.htlcs.length ≤ 60) && decide (b.circles.length ≤ 20) && b.htlcs.all (htOk b.chans) && b.circles.all (ciOk b.chans) && keysOk (keysB b)
def scoreOk (n : Int) : Bool := inB n (-100) 100
def cnOk (b : Bk) (c : Cn) : Bool := chanOk c.id && amtOk c.loc && amtOk c.rem && amtOk c.base && inB c.ppm 0 1000000 && scoreOk c.score && amtOk c.size && decide (c.size = c.loc + c.rem + outB b c.id + intoB b c.id)
def chainC : List Cn → Bool
  | [] => true
  | [_] => true
  | x :: y :: r => decide (x.id < y.id) && chainC (y :: r)
def chansOk (b : Bk) (l : List Cn) : Bool := l.all (cnOk b) && chainC l
def bookOk (b : Bk) : Bool := amtOk b.tick && amtOk b.wallet && inB b.next 1 1125899906842624 && decide (b.chans.length ≤ 20) && partsOk b && chansOk b b.chans
/-- the first that holds gives the code -/
def firstC : List (Bool × Int) → Int
  | [] => 0
  | (b, c) :: r => if b = true then c else firstC r
def hasH (b : Bk) (key : Int) : Bool := b.htlcs.any fun h => decide (h.key = key)
def hasO (b : Bk) (key : Int) : Bool := b.circles.any fun c => decide (c.key = key)
def getH (b : Bk) (key : Int) : Ht := (b.htlcs.find? fun h => decide (h.key = key)).getD Ht.zero
def getO (b : Bk) (key : Int) : Ci := (b.circles.find? fun c => decide (c.key = key)).getD Ci.zero
def usedB (b : Bk) (ch : Int) : Bool := b.htlcs.any (fun h => decide (h.inn = ch ∨ h.out = ch)) || b.circles.any fun c => decide (c.frm = ch ∨ c.to = ch)
def scUp (n : Int) : Int := if scoreOk n = true then min (n + 10) 100 else 0
def scDown (n : Int) : Int := if scoreOk n = true then max (n - 15) (-100) else 0
def scFade (n : Int) : Int := if scoreOk n = true then (if 0 < n then n - 1 else if n < 0 then n + 1 else 0) else 0
def allowV (size few all sf sa amt : Int) (good : Bool) : Int :=
  if (amtOk size && amtOk few && amtOk all && amtOk amt && decide (0 ≤ sf ∧ 0 ≤ sa ∧ few ≤ all ∧ sf ≤ sa)) = false then 0
  else if ¬ (sa < 10 ∧ all + amt ≤ size) then 0 else if sf < 5 ∧ few + amt ≤ size / 2 then 1 else if good = true then 2 else 0
def standB (score : Int) (yes : Bool) : Bool := scoreOk score && decide (20 ≤ score) && yes
/-- how many payments go out over a channel, and how much: of those that are not kept, and of all -/
def roomOf (l : List Ht) (ch : Int) : Int × Int × Int × Int := l.foldl (fun s h => if h.out = ch then (if h.kept = true then (s.1, s.2.1 + h.aout, s.2.2.1, s.2.2.2 + 1) else (s.1 + h.aout, s.2.1 + h.aout, s.2.2.1 + 1, s.2.2.2 + 1)) else s) (0, 0, 0, 0)
def roomV (b : Bk) (from_ to_ : Cn) (ch amt : Int) (yes : Bool) : Int := allowV to_.size (roomOf b.htlcs ch).1 (roomOf b.htlcs ch).2.1 (roomOf b.htlcs ch).2.2.1 (roomOf b.htlcs ch).2.2.2 amt (standB from_.score yes)
def codeB (b : Bk) (e : Ev) : Int := firstC ((decide (b.next = 1125899906842624), 2) ::
  (if e.kind = 1 then [(decide (1125899906842624 < b.wallet + e.amt), 2)]
  else if e.kind = 2 then [(decide (1125899906842624 < e.amt + e.fee), 2), (hasC b.chans e.ch || decide (20 ≤ b.chans.length), 3), (decide (b.wallet < e.amt), 4)]
  else if e.kind = 3 then [(hasC b.chans e.ch && decide (1125899906842624 < b.wallet + (getC b.chans e.ch).loc - e.fee), 2), (!hasC b.chans e.ch, 6), (usedB b e.ch, 7), (decide ((getC b.chans e.ch).loc < e.fee), 8)]
  else if e.kind = 4 then [(!hasC b.chans e.ch, 6)]
  else if e.kind = 5 then [(hasH b e.key || hasO b e.key, 9), (!(hasC b.chans e.ch && hasC b.chans e.to), 6), (decide (60 ≤ b.htlcs.length), 14), (!(feeB (getC b.chans e.to).base (getC b.chans e.to).ppm e.amt true && addOk e.amt (feeV (getC b.chans e.to).base (getC b.chans e.to).ppm e.amt true)), 10),
    (decide ((getC b.chans e.ch).rem < e.amt + feeV (getC b.chans e.to).base (getC b.chans e.to).ppm e.amt true), 11), (decide ((getC b.chans e.to).loc < e.amt), 12), (decide (roomV b (getC b.chans e.ch) (getC b.chans e.to) e.to e.amt e.yes = 0), 13)]
  else if e.kind = 6 ∨ e.kind = 7 then [(!hasH b e.key, 15)]
  else if e.kind = 8 then [(decide (b.tick = 1125899906842624), 2)]
  else if e.kind = 9 then [(hasH b e.key || hasO b e.key, 9), (!(hasC b.chans e.ch && hasC b.chans e.to), 6), (decide (20 ≤ b.circles.length), 14), (decide (1125899906842624 < e.amt + e.fee), 10), (decide ((getC b.chans e.ch).loc < e.amt + e.fee), 12), (decide ((getC b.chans e.to).rem < e.amt), 11)]
  else [(!hasO b e.key, 15)]))
def modC (l : List Cn) (ch : Int) (f : Cn → Cn) : List Cn := l.map fun c => if c.id = ch then f c else c
def moveC (dl dr : Int) (c : Cn) : Cn := { c with loc := c.loc + dl, rem := c.rem + dr }
def insC : List Cn → Cn → List Cn
  | [], c => [c]
  | x :: r, c => if c.id < x.id then c :: x :: r else x :: insC r c
def nzL (l : List Ln) : List Ln := l.filter fun x => !decide (x.amt = 0)
def ageH (h : Ht) : Ht := { h with age := min (h.age + 1) 1125899906842624 }
def fadeC (c : Cn) : Cn := { c with score := scFade c.score }
def sumA (b : Bk) (e : Ev) : Int := e.amt + feeV (getC b.chans e.to).base (getC b.chans e.to).ppm e.amt true
/-- the book behind an event that is taken, and the lines -/
def doB (b : Bk) (e : Ev) : Bk × List Ln :=
  if e.kind = 1 then ({ b with wallet := b.wallet + e.amt }, nzL [⟨1, 0, e.amt⟩, ⟨2, 0, -e.amt⟩])
  else if e.kind = 2 then ({ b with chans := insC b.chans ⟨e.ch, e.amt + e.fee, e.amt, e.fee, 0, 0, 0⟩, wallet := b.wallet - e.amt }, nzL [⟨1, 0, -e.amt⟩, ⟨6, e.ch, e.amt⟩])
  else if e.kind = 3 then ({ b with chans := b.chans.filter (fun c => !decide (c.id = e.ch)), wallet := b.wallet + (getC b.chans e.ch).loc - e.fee }, nzL [⟨1, 0, (getC b.chans e.ch).loc - e.fee⟩, ⟨5, 0, e.fee⟩, ⟨6, e.ch, -(getC b.chans e.ch).loc⟩])
  else if e.kind = 4 then ({ b with chans := modC b.chans e.ch fun c => { c with base := e.amt, ppm := e.fee } }, [])
  else if e.kind = 5 then ({ b with htlcs := b.htlcs ++ [⟨e.key, e.ch, e.to, sumA b e, e.amt, decide (roomV b (getC b.chans e.ch) (getC b.chans e.to) e.to e.amt e.yes = 2), 0⟩], chans := modC (modC b.chans e.ch (moveC 0 (-(sumA b e)))) e.to (moveC (-e.amt) 0) }, nzL [⟨6, e.to, -e.amt⟩, ⟨8, e.to, e.amt⟩])
  else if e.kind = 6 then ({ b with htlcs := b.htlcs.filter (fun h => !decide (h.key = e.key)), chans := modC (modC (modC b.chans (getH b e.key).inn (moveC (getH b e.key).ain 0)) (getH b e.key).out (moveC 0 (getH b e.key).aout)) (getH b e.key).inn (fun c => { c with score := scUp c.score }) },
    nzL [⟨3, 0, (getH b e.key).aout - (getH b e.key).ain⟩, ⟨6, (getH b e.key).inn, (getH b e.key).ain⟩, ⟨8, (getH b e.key).out, -(getH b e.key).aout⟩])
  else if e.kind = 7 then ({ b with htlcs := b.htlcs.filter (fun h => !decide (h.key = e.key)), chans := modC (modC (modC b.chans (getH b e.key).inn (moveC 0 (getH b e.key).ain)) (getH b e.key).out (moveC (getH b e.key).aout 0)) (getH b e.key).inn (fun c => { c with score := scDown c.score }) },
    nzL [⟨6, (getH b e.key).out, (getH b e.key).aout⟩, ⟨8, (getH b e.key).out, -(getH b e.key).aout⟩])
  else if e.kind = 8 then ({ b with tick := b.tick + 1, htlcs := b.htlcs.map ageH, chans := if (b.tick + 1) % 5 = 0 then b.chans.map fadeC else b.chans }, [])
  else if e.kind = 9 then ({ b with circles := b.circles ++ [⟨e.key, e.ch, e.to, e.amt, e.fee⟩], chans := modC (modC b.chans e.ch (moveC (-(e.amt + e.fee)) 0)) e.to (moveC 0 (-e.amt)) }, nzL [⟨6, e.ch, -(e.amt + e.fee)⟩, ⟨8, e.ch, e.amt + e.fee⟩])
  else if e.kind = 10 then ({ b with circles := b.circles.filter (fun c => !decide (c.key = e.key)), chans := modC (modC b.chans (getO b e.key).frm (moveC 0 ((getO b e.key).amt + (getO b e.key).fee))) (getO b e.key).to (moveC (getO b e.key).amt 0) },
    nzL [⟨4, 0, (getO b e.key).fee⟩, ⟨6, (getO b e.key).to, (getO b e.key).amt⟩, ⟨8, (getO b e.key).frm, -((getO b e.key).amt + (getO b e.key).fee)⟩])
  else ({ b with circles := b.circles.filter (fun c => !decide (c.key = e.key)), chans := modC (modC b.chans (getO b e.key).frm (moveC ((getO b e.key).amt + (getO b e.key).fee) 0)) (getO b e.key).to (moveC 0 (getO b e.key).amt) },
    nzL [⟨6, (getO b e.key).frm, (getO b e.key).amt + (getO b e.key).fee⟩, ⟨8, (getO b e.key).frm, -((getO b e.key).amt + (getO b e.key).fee)⟩])
/-- an event applied: the code, the book, the posting -/
def applyB (b : Bk) (e : Ev) : Int × Bk × Po :=
  if (bookOk b && e.good) = false then (1, Bk.zero, Po.zero) else if codeB b e ≠ 0 then (codeB b e, Bk.zero, Po.zero)
  else if (doB b e).2 = [] then (0, (doB b e).1, Po.zero) else (0, { (doB b e).1 with next := b.next + 1 }, ⟨b.next, (doB b e).2⟩)
structure Aa where
  book : Bk
  ps : List Po
  codes : List Int
def stepA (s : Aa) (e : Ev) : Aa := if (applyB s.book e).1 ≠ 0 then { s with codes := s.codes ++ [(applyB s.book e).1] } else ⟨(applyB s.book e).2.1, if (applyB s.book e).2.2.lines = [] then s.ps else s.ps ++ [(applyB s.book e).2.2], s.codes ++ [0]⟩
def applyAllB (b : Bk) (es : List Ev) : Aa := if bookOk b = false then ⟨Bk.zero, [], []⟩ else es.foldl stepA ⟨b, [], []⟩
def agreesB (b : Bk) (l : Lg) : Bool := bookOk b && ledgerOk l && decide (l.last = b.next - 1) && decide (balance l 1 0 = b.wallet) &&
  (List.range 99).all fun i => decide (balance l 6 (i + 1) = (if hasC b.chans (i + 1) = true then (getC b.chans (i + 1)).loc else 0)) && decide (balance l 8 (i + 1) = (if hasC b.chans (i + 1) = true then outB b (i + 1) else 0)) && decide (balance l 7 (i + 1) = 0)
structure Hb where
  log : Lo
  book : Bk
  ledger : Lg
  wait : List Ev
  sent : List Ev
def Hb.zero : Hb := ⟨Lo.zero, Bk.zero, Lg.zero, [], []⟩
structure Wd where
  up : Bool
  hub : Hb
  disk : Dk
  took : List Ev
  sent : List Ev
  codes : List Int
def Wd.zero : Wd := ⟨false, Hb.zero, Dk.zero, [], [], []⟩
structure Rp where
  book : Bk
  ledger : Lg
  ok : Bool
/-- events played again -/
def replay (es : List Ev) : Rp := ⟨(applyAllB Bk.new es).book, (postAllL Lg.zero (applyAllB Bk.new es).ps).1, (applyAllB Bk.new es).codes.all (fun c => decide (c = 0)) && decide ((postAllL Lg.zero (applyAllB Bk.new es).ps).2 = ((applyAllB Bk.new es).ps.length : Int))⟩
open Classical in
/-- the hub is right -/
noncomputable def hubOk (h : Hb) : Bool := diskOk h.log.disk && decide (0 ≤ h.log.next ∧ h.log.next ≤ (h.log.disk.cells.length : Int)) && decide (1 ≤ h.log.epoch ∧ h.log.epoch ≤ 16000000) && decide (((logRead h.log.disk).length : Int) = h.log.next) &&
  (replay (logEvents h.log.disk)).ok && (bookOk (replay (logEvents h.log.disk)).book && bookOk h.book && decide ((replay (logEvents h.log.disk)).book = h.book)) && decide ((replay (logEvents h.log.disk)).ledger = h.ledger) &&
  decide ((h.sent ++ h.wait) <:+ logEvents h.log.disk)

end Go.Proofs.YtafbdbefmlgioaaGreatDoor
