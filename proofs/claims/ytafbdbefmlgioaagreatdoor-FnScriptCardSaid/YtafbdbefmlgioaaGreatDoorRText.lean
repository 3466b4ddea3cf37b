/- The text of a route: the reference; small numbers. -/
import Derived.Test.YtafbdbefmlgioaaGreatDoorNumT
import Derived.Test.YtafbdbefmlgioaaGreatDoorInts
import Derived.Lib.Join
import Derived.Test.YtafbdbefmlgioaaGreatDoorOwn
namespace Go.Proofs.YtafbdbefmlgioaaGreatDoor
open Go.RowKit
set_option linter.unusedVariables false
set_option linter.unusedSimpArgs false

def digs (x : Int) : List UInt8 := Lib.decDigits x.toNat
def rtIn (xs : List Int) : Bool := xs.all fun x => inB x 0 40
def rtJ (xs : List Int) : List UInt8 := Lib.join (xs.map digs) [62]
def rText (xs : List Int) : List UInt8 := if rtIn xs = true then rtJ xs else []
theorem join_snoc (xs : List (List UInt8)) (x sep : List UInt8) : Lib.join (xs ++ [x]) sep = if xs = [] then x else Lib.join xs sep ++ sep ++ x := by
  cases xs with
  | nil => rw [if_pos rfl]; exact Lib.join_one x sep
  | cons y r =>
    rw [if_neg (by simp), List.cons_append, Lib.join_cons, Lib.join_cons]
    simp [Lib.joinTail]
theorem rtJ_nil : rtJ [] = [] := rfl
theorem rtJ_one (x : Int) : rtJ ([] ++ [x]) = digs x := by unfold rtJ; simp [Lib.join_one]
theorem rtJ_snoc {xs : List Int} (h : xs ≠ []) (x : Int) : rtJ (xs ++ [x]) = rtJ xs ++ [62] ++ digs x := by
  unfold rtJ
  rw [List.map_append, List.map_cons, List.map_nil, join_snoc, if_neg (by simpa using h)]
theorem digs_len {x : Int} (h : inB x 0 40 = true) : 1 ≤ (digs x).length ∧ (digs x).length ≤ 2 := by
  have hb := inB_t h
  unfold digs
  by_cases h1 : x.toNat < 10
  · rw [Lib.decDigits_one h1]; simp
  · rw [Lib.decDigits_two h1 (by omega)]; simp
theorem rtIn_snoc {xs : List Int} {x : Int} (h : rtIn xs = true) (hx : inB x 0 40 = true) : rtIn (xs ++ [x]) = true := by simp [rtIn, List.all_append] at h ⊢; exact ⟨h, hx⟩
theorem rtIn_bad {xs : List Int} {k : Nat} {x : Int} (h : xs[k]? = some x) (hx : inB x 0 40 = false) : rText xs = [] := by
  have : rtIn xs = false := by
    unfold rtIn
    rw [List.all_eq_false]
    exact ⟨x, List.mem_of_getElem? h, by simp [hx]⟩
  unfold rText; rw [this]; rfl
theorem tail_len : ∀ (r : List Int), rtIn r = true → (Lib.joinTail [62] (r.map digs)).length ≤ 3 * r.length
  | [], _ => by simp [Lib.joinTail]
  | x :: r, h => by
    have h' : inB x 0 40 = true ∧ rtIn r = true := by simpa [rtIn] using h
    have hd := digs_len h'.1
    have ih := tail_len r h'.2
    have e : Lib.joinTail [62] ((x :: r).map digs) = ([62] ++ digs x) ++ Lib.joinTail [62] (r.map digs) := by simp [Lib.joinTail]
    rw [e, List.length_append, List.length_append]
    simp only [List.length_cons, List.length_nil]
    omega
theorem rtJ_len : ∀ (xs : List Int), rtIn xs = true → (rtJ xs).length ≤ 3 * xs.length
  | [], _ => by simp [rtJ_nil]
  | x :: r, h => by
    have h' : inB x 0 40 = true ∧ rtIn r = true := by simpa [rtIn] using h
    have hd := digs_len h'.1
    have ih := tail_len r h'.2
    unfold rtJ
    rw [List.map_cons, Lib.join_cons, List.length_append, List.length_cons]
    omega

theorem inB_u {u : Nat} (hu : u < 100) : inB (u : Int) (-1125899906842624) 1125899906842624 = true := decide_eq_true (by omega)

set_option maxHeartbeats 800000 in
theorem numText_small (u : Nat) (w : World) (hu : u < 100) : Calls Tryz.prog 66 #[.int .i64 (u : Int)] w fun e w' => e = .returned (.string (S (Lib.decDigits u))) ∧ w = w' := by
  have h := inB_u hu
  go_enter Tryz.func66, Tryz.ntmps66
  go_wp2_with (first | (go_at_call 85; refine (in_impl _ _ _ _).mono ?_; rintro e w1 ⟨he, rfl⟩; rw [h] at he; subst he) | (go_at_call 102; refine (Tryz.strconv_Itoa_small u hu _).mono ?_; rintro e w1 ⟨rfl, rfl⟩))
  go_ret
  exact ⟨rfl, rfl⟩

def encS (s : ByteArray) : List Value := [.string s]
theorem infoString : (Tryz.prog.info? 9).map (fun i => (i.zero, i.size, i.bytes)) = some (some (.string ⟨#[]⟩), 1, 16) := by kernel_rfl
abbrev OwnS := OwnF encS 1 9
theorem oneS (s : ByteArray) : ∀ u ∈ encS s, u.oneCell' = true := by intro u hu; simp [encS] at hu; subst hu; rfl
theorem lenS (s : ByteArray) : (encS s).length = 1 := rfl
def digS (x : Int) : ByteArray := S (digs x)
theorem digS_list (xs : List Int) : (xs.map digS).map (·.data.toList) = xs.map digs := by simp [digS, S]

set_option maxRecDepth 100000 in
set_option maxHeartbeats 3200000 in
theorem join_own (v : Value) (ss : List ByteArray) (sep : ByteArray) (B : Nat) (w : World) (hown : OwnS w B v ss) (hn : ss.length ≤ 140737488355328) (hlen : (Lib.join (ss.map (·.data.toList)) sep.data.toList).length ≤ 140737488355328) :
    Calls Tryz.prog 67 #[v, .string sep] w fun e w' => e = .returned (.string (S (Lib.join (ss.map (·.data.toList)) sep.data.toList))) ∧ Below w.heap.size w w' := by
  obtain ⟨a, c, rfl, ho⟩ := OwnF.of (ok := fun _ => True) hown (fun _ _ => trivial)
  have hcap := ho.capB
  cases hs : ss with
  | nil =>
    subst hs
    exact (Tryz.strings_Join_none a c sep w).mono fun e w' ⟨he, hw⟩ => ⟨he, hw ▸ Below.refl _ _⟩
  | cons x r =>
    have f := OF.fs lenS ho
    obtain ⟨bk, off, y, e, hb, _⟩ := FS.at_ f (k := 0) (by rw [hs]; simp)
    rw [← hs]
    subst e
    refine Tryz.strings_Join bk off c ss sep w (fun j x hx => ?_) hb hn hcap hlen
    obtain ⟨b', off', e', hlt, hc⟩ := f.2.2.2 j x hx
    injection e' with e'
    injection e' with e1 e2
    subst e1
    subst e2
    have := hc 0 _ rfl
    rw [Nat.mul_one, Nat.add_zero] at this
    exact this

end Go.Proofs.YtafbdbefmlgioaaGreatDoor
