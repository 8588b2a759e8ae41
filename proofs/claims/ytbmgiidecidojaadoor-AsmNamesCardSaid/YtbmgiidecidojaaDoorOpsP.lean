/- Plain words on programs: operations, a slice of them in memory, which may be written, which may run. -/
import Derived.Test.YtbmgiidecidojaaDoorNumPlain
import Derived.Test.YtbmgiidecidojaaDoorRuneP
namespace Go.Proofs.YtbmgiidecidojaaDoor
open Go.RowKit

/-- An operation: its code and its three numbers. -/
abbrev OpT := Int × Int × Int × Int
def opAgg (o : OpT) : Value := .agg #[.int .i64 o.1, .int .i64 o.2.1, .int .i64 o.2.2.1, .int .i64 o.2.2.2]
def ocs (o : OpT) : List Value := [.int .i64 o.1, .int .i64 o.2.1, .int .i64 o.2.2.1, .int .i64 o.2.2.2]
def opcs (l : List OpT) : List Value := l.flatMap ocs
def okI (n : Int) : Prop := -9223372036854775808 ≤ n ∧ n ≤ 9223372036854775807
def okO (o : OpT) : Prop := okI o.1 ∧ okI o.2.1 ∧ okI o.2.2.1 ∧ okI o.2.2.2
theorem opcs_nil : opcs [] = [] := rfl
theorem opcs_cons (o : OpT) (l : List OpT) : opcs (o :: l) = ocs o ++ opcs l := rfl
theorem opcs_append (a b : List OpT) : opcs (a ++ b) = opcs a ++ opcs b := by simp [opcs]
theorem ocs_length (o : OpT) : (ocs o).length = 4 := rfl
theorem opcs_length : ∀ l : List OpT, (opcs l).length = l.length * 4
  | [] => rfl
  | o :: l => by rw [opcs_cons, List.length_append, ocs_length, opcs_length l, List.length_cons]; omega
theorem opcs_get : ∀ (l : List OpT) (k j : Nat) (hk : k < l.length), j < 4 → (opcs l)[k * 4 + j]? = (ocs l[k])[j]?
  | o :: l, 0, j, _, hj => by
    rw [opcs_cons, Nat.zero_mul, Nat.zero_add, List.getElem?_append_left (by rw [ocs_length]; exact hj)]; rfl
  | o :: l, k + 1, j, hk, hj => by
    rw [opcs_cons, List.getElem?_append_right (by rw [ocs_length]; omega), ocs_length, show (k + 1) * 4 + j - 4 = k * 4 + j by omega, opcs_get l k j (by simpa using hk) hj]; rfl
theorem opcs_take (l : List OpT) (k : Nat) : (opcs l).take (k * 4) = opcs (l.take k) := by
  induction l generalizing k with
  | nil => simp [opcs]
  | cons o l ih =>
    cases k with
    | zero => simp [opcs]
    | succ k =>
      rw [opcs_cons, List.take_succ_cons, opcs_cons, List.take_append, ocs_length, List.take_of_length_le (by rw [ocs_length]; omega), show (k + 1) * 4 - 4 = k * 4 by omega, ih]
theorem opcs_one (l : List OpT) : ∀ u ∈ opcs l, u.oneCell' = true := by
  intro u hu
  obtain ⟨o, _, ho⟩ := List.mem_flatMap.1 hu
  simp only [ocs, List.mem_cons, List.not_mem_nil, or_false] at ho
  rcases ho with rfl | rfl | rfl | rfl <;> rfl

/-- A slice of operations. -/
def Ro (w : World) (A : Option Addr) (n c : Nat) (l : List OpT) : Prop := Rd w 4 A n c (opcs l)
theorem Ro.len {w : World} {A : Option Addr} {n c : Nat} {l : List OpT} (h : Ro w A n c l) : n = l.length := by have := h.1; rw [opcs_length] at this; omega
theorem Ro.ext {w w' : World} {A : Option Addr} {n c : Nat} {l : List OpT} (h : Ro w A n c l) (he : Ext w w') : Ro w' A n c l := Rd.ext h he
theorem Ro.nil_ (w : World) : Ro w none 0 0 [] := Rd.nil_ w 4
theorem Ro.max {w : World} {A : Option Addr} {n c : Nat} {l : List OpT} (h : Ro w A n c l) : n ≤ c ∧ c ≤ maxLen := ⟨h.2.1, h.2.2.1⟩
theorem Ro.take {w : World} {A : Option Addr} {n c : Nat} {l : List OpT} (h : Ro w A n c l) {k : Nat} (hk : k ≤ n) : Ro w A k c (l.take k) := by
  have := Rd.take h hk
  rw [opcs_take] at this
  exact this
theorem Ro.at_ {w : World} {A : Option Addr} {n c : Nat} {l : List OpT} (h : Ro w A n c l) {k : Nat} (hk : k < l.length) :
    ∃ b o, A = some ⟨b, o, none⟩ ∧ w.cell? ⟨b, o + k * 4, none⟩ = some (.int .i64 l[k].1) ∧ w.cell? ⟨b, o + k * 4 + 1, none⟩ = some (.int .i64 l[k].2.1) ∧
      w.cell? ⟨b, o + k * 4 + 2, none⟩ = some (.int .i64 l[k].2.2.1) ∧ w.cell? ⟨b, o + k * 4 + 3, none⟩ = some (.int .i64 l[k].2.2.2) := by
  have hn := h.len
  obtain ⟨b, o, e, hc⟩ := h.2.2.2 (by omega)
  have hg : ∀ j (hj : j < 4), w.cell? ⟨b, o + k * 4 + j, none⟩ = some ((ocs l[k])[j]'(by rw [ocs_length]; exact hj)) := fun j hj => by
    rw [Nat.add_assoc]
    refine hc _ _ ?_
    rw [opcs_get l k j hk hj, List.getElem?_eq_getElem (by rw [ocs_length]; exact hj)]
  exact ⟨b, o, e, hg 0 (by decide), hg 1 (by decide), hg 2 (by decide), hg 3 (by decide)⟩

/-- From -2^31 to 2^31 - 1. -/
def smallI (n : Int) : Bool := decide (-2147483648 ≤ n) && decide (n ≤ 2147483647)
def smallO (o : OpT) : Bool := smallI o.1 && smallI o.2.1 && smallI o.2.2.1 && smallI o.2.2.2
/-- May a program be written? -/
def formL (t : List UInt8) (l : List OpT) : Bool := titleL t && decide (1 ≤ l.length) && decide (l.length ≤ 64) && l.all smallO
def nums (o : OpT) : List Int := [o.1, o.2.1, o.2.2.1, o.2.2.2]
/-- A program's bytes. -/
def encB (t : List UInt8) (l : List OpT) : List UInt8 := bytesL t ++ putL l.length ++ putAll (l.flatMap nums)
def encL (t : List UInt8) (l : List OpT) : List UInt8 := if formL t l then encB t l else []

/-- How many numbers an operation takes; -1: there is none. -/
def takesL (c : Int) : Int :=
  if c = 0 then 0 else if c = 9 ∨ c = 15 then 1 else if c = 1 ∨ c = 2 ∨ c = 10 ∨ c = 11 ∨ c = 12 ∨ c = 13 ∨ c = 14 then 2 else if 3 ≤ c ∧ c ≤ 8 then 3 else -1
def cellI (n : Int) : Bool := decide (0 ≤ n) && decide (n ≤ 31)
def toI (m : Nat) (n : Int) : Bool := decide (0 ≤ n) && decide (n ≤ m)
/-- May an operation be, of m? -/
def mayL (o : OpT) (m : Nat) : Bool :=
  if o.1 = 0 then o.2.1 == 0 && o.2.2.1 == 0 && o.2.2.2 == 0
  else if o.1 = 1 then cellI o.2.1 && o.2.2.2 == 0
  else if o.1 = 9 then toI m o.2.1 && o.2.2.1 == 0 && o.2.2.2 == 0
  else if o.1 = 10 then cellI o.2.1 && toI m o.2.2.1 && o.2.2.2 == 0
  else if o.1 = 15 then cellI o.2.1 && o.2.2.1 == 0 && o.2.2.2 == 0
  else if o.1 = 2 ∨ 11 ≤ o.1 ∧ o.1 ≤ 14 then cellI o.2.1 && cellI o.2.2.1 && o.2.2.2 == 0
  else if 3 ≤ o.1 ∧ o.1 ≤ 8 then cellI o.2.1 && cellI o.2.2.1 && cellI o.2.2.2
  else false
/-- The first that may not be, from the k-th on; -1: none. -/
def badGo (m : Nat) : Nat → List OpT → Int
  | _, [] => -1
  | k, o :: l => if mayL o m then badGo m (k + 1) l else k
def faultL (t : List UInt8) (l : List OpT) : Int := if formL t l then badGo l.length 0 l else -2
end Go.Proofs.YtbmgiidecidojaaDoor
