/- Disks, sectors, logs: the plain part. -/
import Derived.Test.YtafbdbefmlgioaaGreatDoorOwn
import Derived.Test.YtafbdbefmlgioaaGreatDoorSEvent
import Derived.Test.YtafbdbefmlgioaaGreatDoorEvA
namespace Go.Proofs.YtafbdbefmlgioaaGreatDoor
open Go.RowKit
set_option linter.unusedVariables false
set_option linter.unusedSimpArgs false

/-- a number as bytes, the greatest first -/
def be (n : Nat) : Nat → List UInt8
  | 0 => []
  | k + 1 => UInt8.ofNat (n / 256 ^ k % 256) :: be n k
def num (l : List UInt8) : Nat := l.foldl (fun n b => n * 256 + b.toNat) 0
theorem be_len (n : Nat) : ∀ k, (be n k).length = k
  | 0 => rfl
  | k + 1 => by rw [be, List.length_cons, be_len n k]
theorem num_app (l r : List UInt8) : num (l ++ r) = r.foldl (fun n b => n * 256 + b.toNat) (num l) := by unfold num; rw [List.foldl_append]
theorem num_snoc (l : List UInt8) (b : UInt8) : num (l ++ [b]) = num l * 256 + b.toNat := by rw [num_app]; rfl
theorem fold_num : ∀ (l : List UInt8) (m : Nat), l.foldl (fun n b => n * 256 + b.toNat) m = m * 256 ^ l.length + num l
  | [], m => by simp [num]
  | b :: l, m => by
    have h1 := fold_num l (m * 256 + b.toNat)
    have h2 := fold_num l b.toNat
    have e : num (b :: l) = l.foldl (fun n b => n * 256 + b.toNat) b.toNat := by unfold num; rw [List.foldl_cons, Nat.zero_mul, Nat.zero_add]
    rw [List.foldl_cons, h1, e, h2, List.length_cons, Nat.pow_succ, Nat.add_mul, Nat.mul_assoc, Nat.mul_comm 256]
    omega
theorem num_cons (b : UInt8) (l : List UInt8) : num (b :: l) = b.toNat * 256 ^ l.length + num l := by
  have h := fold_num l b.toNat
  rw [← h]
  unfold num
  rw [List.foldl_cons, Nat.zero_mul, Nat.zero_add]
theorem num_be (n : Nat) : ∀ k, num (be n k) = n % 256 ^ k
  | 0 => by simp [be, num, Nat.mod_one]
  | k + 1 => by
    rw [be, num_cons, be_len, num_be n k, UInt8.toNat_ofNat']
    have h1 : n / 256 ^ k % 256 < 256 := Nat.mod_lt _ (by omega)
    rw [Nat.mod_eq_of_lt (show n / 256 ^ k % 256 < 2 ^ 8 by omega)]
    have h2 := Nat.mod_mul (a := 256 ^ k) (b := 256) (x := n)
    rw [show (256 : Nat) ^ (k + 1) = 256 ^ k * 256 from Nat.pow_succ 256 k, h2, Nat.mul_comm]
    omega
theorem num_lt : ∀ l : List UInt8, num l < 256 ^ l.length
  | [] => by simp [num]
  | b :: l => by
    have := num_lt l
    have hb := b.toNat_lt
    rw [num_cons, List.length_cons, Nat.pow_succ]
    have h1 : b.toNat * 256 ^ l.length ≤ 255 * 256 ^ l.length := Nat.mul_le_mul_right _ (by omega)
    omega
theorem be_num : ∀ l : List UInt8, be (num l) l.length = l
  | [] => rfl
  | b :: l => by
    have h1 := num_lt l
    have hb := b.toNat_lt
    have hp : 0 < 256 ^ l.length := Nat.pow_pos (by omega)
    rw [List.length_cons, be]
    have e1 : num (b :: l) / 256 ^ l.length = b.toNat := by rw [num_cons, Nat.add_comm, Nat.add_mul_div_right _ _ hp, Nat.div_eq_of_lt h1]; omega
    rw [e1, Nat.mod_eq_of_lt (by omega)]
    have e2 : be (num (b :: l)) l.length = be (num l) l.length := by
      have : ∀ k, k ≤ l.length → be (num (b :: l)) k = be (num l) k := by
        intro k hk
        induction k with
        | zero => rfl
        | succ k ih =>
          rw [be, be, ih (by omega)]
          congr 2
          have h2 : 256 ^ l.length = 256 ^ k * 256 * 256 ^ (l.length - (k + 1)) := by
            rw [← Nat.pow_succ, ← Nat.pow_add]
            congr 1
            omega
          rw [num_cons, Nat.add_comm, h2]
          rw [show b.toNat * (256 ^ k * 256 * 256 ^ (l.length - (k + 1))) = 256 ^ k * (b.toNat * 256 ^ (l.length - (k + 1)) * 256) by
            rw [Nat.mul_comm (256 ^ k * 256), Nat.mul_comm (256 ^ k) 256, ← Nat.mul_assoc, ← Nat.mul_assoc, Nat.mul_comm _ (256 ^ k)]]
          rw [Nat.add_mul_div_left _ _ (Nat.pow_pos (by omega)), Nat.add_mul_mod_self_right]
      exact this _ (Nat.le_refl _)
    rw [e2, be_num l]
    congr 1
    apply UInt8.toNat_inj.1
    rw [UInt8.toNat_ofNat', Nat.mod_eq_of_lt hb]
structure Wr where
  at_ : Int
  bytes : List UInt8
structure Dk where
  cells : List (List UInt8)
  dirty : List Wr
structure Sc where
  seq : Int
  epoch : Int
  body : List UInt8
structure Lo where
  disk : Dk
  next : Int
  epoch : Int
def Dk.zero : Dk := ⟨[], []⟩
def Lo.zero : Lo := ⟨Dk.zero, 0, 0⟩
def secOk (s : Sc) : Bool := decide (0 ≤ s.seq ∧ s.seq ≤ 599) && decide (1 ≤ s.epoch ∧ s.epoch ≤ 16000000) && decide (s.body.length ≤ 100)
def zerosB (n : Nat) : List UInt8 := List.replicate n 0
def secBytes (s : Sc) : List UInt8 := [74] ++ be s.seq.toNat 3 ++ be s.epoch.toNat 3 ++ [UInt8.ofNat s.body.length] ++ s.body ++ zerosB (114 - s.body.length) ++ be s.seq.toNat 3 ++ be s.epoch.toNat 3
theorem secBytes_len (s : Sc) (h : s.body.length ≤ 100) : (secBytes s).length = 128 := by
  unfold secBytes zerosB
  simp only [List.length_append, be_len, List.length_cons, List.length_nil, List.length_replicate]
  omega
def part (l : List UInt8) (i n : Nat) : List UInt8 := (l.drop i).take n
def byteAt (l : List UInt8) (i : Nat) : Nat := ((l[i]?).getD 0).toNat
def secOf (l : List UInt8) : Sc := ⟨num (part l 1 3), num (part l 4 3), part l 8 (byteAt l 7)⟩
def secRead (l : List UInt8) : Option Sc := if l.length = 128 ∧ byteAt l 7 ≤ 100 then (if secOk (secOf l) = true ∧ secBytes (secOf l) = l then some (secOf l) else none) else none
def Ev.good (e : Ev) : Bool := evOk e.kind e.key e.ch e.to e.amt e.fee e.yes
def evBody (e : Ev) : List UInt8 := [69, UInt8.ofNat e.kind.toNat] ++ be e.key.toNat 3 ++ [UInt8.ofNat e.ch.toNat, UInt8.ofNat e.to.toNat] ++ be e.amt.toNat 7 ++ be e.fee.toNat 7 ++ [if e.yes = true then 1 else 0]
theorem evBody_len (e : Ev) : (evBody e).length = 22 := by
  unfold evBody
  simp only [List.length_append, be_len, List.length_cons, List.length_nil]
def evOf (l : List UInt8) : Ev := ⟨byteAt l 1, num (part l 2 3), byteAt l 5, byteAt l 6, num (part l 7 7), num (part l 14 7), decide (byteAt l 21 = 1)⟩
def bodyEv (l : List UInt8) : Option Ev := if l.length = 22 then (if (evOf l).good = true ∧ evBody (evOf l) = l then some (evOf l) else none) else none
def diskOk (d : Dk) : Bool := decide (1 ≤ d.cells.length ∧ d.cells.length ≤ 600) && decide (d.dirty.length ≤ 600) && d.cells.all (fun c => decide (c.length = 0 ∨ c.length = 128)) && d.dirty.all (fun w => decide ((0 ≤ w.at_ ∧ w.at_ < (d.cells.length : Int)) ∧ w.bytes.length = 128))
def fullB (l : List UInt8) : List UInt8 := if l = [] then zerosB 128 else l
/-- what is read at a place -/
def readD (d : Dk) (i : Nat) : List UInt8 := match d.dirty.reverse.find? (fun w => decide (w.at_ = (i : Int))) with
  | some w => w.bytes
  | none => fullB ((d.cells[i]?).getD [])
def writeD (d : Dk) (i : Int) (b : List UInt8) : Dk := ⟨d.cells, d.dirty ++ [⟨i, b⟩]⟩
def putC (cs : List (List UInt8)) (w : Wr) : List (List UInt8) := cs.set w.at_.toNat w.bytes
def syncD (d : Dk) : Dk := ⟨d.dirty.foldl putC d.cells, []⟩
def keepN (keep : List Int) (i : Nat) : Nat := let n := (keep[i]?).getD 0; if n < 0 then 0 else if 128 < n then 128 else n.toNat
def tornC (cs : List (List UInt8)) (w : Wr) (n : Nat) : List (List UInt8) := if n = 0 then cs else cs.set w.at_.toNat (w.bytes.take n ++ (fullB ((cs[w.at_.toNat]?).getD [])).drop n)
def crashC (keep : List Int) : List Wr → Nat → List (List UInt8) → List (List UInt8)
  | [], _, cs => cs
  | w :: r, i, cs => crashC keep r (i + 1) (tornC cs w (keepN keep i))
def crashD (d : Dk) (keep : List Int) : Dk := ⟨crashC keep d.dirty 0 d.cells, []⟩
def logGo (d : Dk) : Nat → Int → Nat → List Sc
  | _, _, 0 => []
  | i, last, f + 1 => match secRead (readD d i) with
    | none => []
    | some s => if s.seq = (i : Int) ∧ last ≤ s.epoch then s :: logGo d (i + 1) s.epoch f else []
def logRead (d : Dk) : List Sc := if diskOk d = true then logGo d 0 0 d.cells.length else []
def epochAt (d : Dk) (i : Nat) : Int := match secRead (readD d i) with
  | none => 0
  | some s => s.epoch
def topGo (d : Dk) : Nat → Int
  | 0 => 0
  | k + 1 => max (topGo d k) (epochAt d k)
def logTop (d : Dk) : Int := if diskOk d = true then topGo d d.cells.length else 0
def evsOf (l : List Sc) : List Ev := l.filterMap fun s => bodyEv s.body
def logEvents (d : Dk) : List Ev := evsOf (logRead d)
/-- a log opened: the code, the log -/
def logOpen (d : Dk) : Int × Lo :=
  if diskOk d = false ∨ d.dirty ≠ [] then (1, Lo.zero) else if (logRead d).length = d.cells.length ∨ 16000000 ≤ logTop d then (2, Lo.zero)
  else (0, ⟨syncD (writeD d (logRead d).length (secBytes ⟨(logRead d).length, logTop d + 1, [66]⟩)), ((logRead d).length : Int) + 1, logTop d + 1⟩)
def logAdd (l : Lo) (e : Ev) : Int × Lo :=
  if diskOk l.disk = false ∨ ¬ (0 ≤ l.next ∧ l.next ≤ (l.disk.cells.length : Int)) ∨ ¬ (1 ≤ l.epoch ∧ l.epoch ≤ 16000000) ∨ e.good = false then (1, Lo.zero)
  else if l.next = (l.disk.cells.length : Int) ∨ 600 ≤ l.disk.dirty.length then (2, Lo.zero)
  else (0, ⟨writeD l.disk l.next (secBytes ⟨l.next, l.epoch, evBody e⟩), l.next + 1, l.epoch⟩)

end Go.Proofs.YtafbdbefmlgioaaGreatDoor
