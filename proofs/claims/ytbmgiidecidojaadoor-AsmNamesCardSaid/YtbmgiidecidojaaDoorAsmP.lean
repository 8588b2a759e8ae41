/- Plain words on programs as text: a line without its remark and the blanks at its ends, the lines of a text, a title's line, an operation's line, what a text says; a program's text. No program in sight. -/
import Derived.Test.YtbmgiidecidojaaDoorOpsP
import Derived.Test.YtbmgiidecidojaaDoorRuneM
namespace Go.Proofs.YtbmgiidecidojaaDoor
open Go.RowKit

/-- What stands ahead of the first #. -/
def cutH (l : List UInt8) : List UInt8 := l.takeWhile fun b => b.toNat != 35
def skipB (l : List UInt8) : List UInt8 := l.dropWhile blank
def endB (l : List UInt8) : List UInt8 := (l.reverse.dropWhile blank).reverse
/-- A line's bare text. -/
def bareL (l : List UInt8) : List UInt8 := endB (skipB (cutH l))
/-- A text's lines, as they stand. -/
def splitL : List UInt8 → List UInt8 → List (List UInt8)
  | [], cur => [cur]
  | b :: t, cur => if b.toNat = 10 then cur :: splitL t [] else splitL t (cur ++ [b])
/-- The word of a title's line. -/
def ttlW : List UInt8 := [116, 105, 116, 108, 101]
def ttlL (l : List UInt8) : Option (List UInt8) :=
  if l.take 5 = ttlW ∧ 5 < l.length ∧ blank (l.getD 5 0) = true ∧ titleL (bareL (l.drop 5)) = true then some (bareL (l.drop 5)) else none
def namesL : List (List UInt8) :=
  [[104, 97, 108, 116], [115, 101, 116], [109, 111, 118], [97, 100, 100], [115, 117, 98], [109, 117, 108], [100, 105, 118], [108, 101, 115, 115], [115, 97, 109, 101], [106, 117, 109, 112], [122, 101, 114, 111], [105, 110], [108, 111, 97, 100], [107, 101, 101, 112], [114, 117, 110, 101], [116, 105, 109, 101]]
/-- Numbers, if all are. -/
def argsL : List (List UInt8) → Option (List Int)
  | [] => some []
  | x :: r => match numL x, argsL r with
    | some n, some m => some (n :: m)
    | _, _ => none
/-- An operation of its code and numbers. -/
def mkO (c : Nat) (ns : List Int) : OpT := ((c : Int), ns.getD 0 0, ns.getD 1 0, ns.getD 2 0)
def opW (ws : List (List UInt8)) : Option OpT :=
  if namesL.idxOf (ws.headD []) < 16 ∧ (ws.tail.length : Int) = takesL (namesL.idxOf (ws.headD [])) then
    (argsL ws.tail).map (mkO (namesL.idxOf (ws.headD [])))
  else none
def opL (l : List UInt8) : Option OpT := opW (wordsL l)
/-- What lines say: a title and operations, or the number of the first that is wrong; nought: there are none. -/
def parseF : List (List UInt8) → Nat → Option (List UInt8) → List OpT → Nat ⊕ (List UInt8 × List OpT)
  | [], _, t, ops => if ops = [] then .inl 0 else .inr (t.getD [], ops)
  | x :: r, i, none, ops => if x = [] then parseF r (i + 1) none ops else match ttlL x with
    | none => .inl (i + 1)
    | some t => parseF r (i + 1) (some t) ops
  | x :: r, i, some t, ops => if x = [] then parseF r (i + 1) (some t) ops else match opL x with
    | none => .inl (i + 1)
    | some o => if 64 ≤ ops.length then .inl (i + 1) else parseF r (i + 1) (some t) (ops ++ [o])
def linesL (l : List UInt8) : List (List UInt8) := (splitL l []).map bareL
def parseL (l : List UInt8) : Nat ⊕ (List UInt8 × List OpT) := parseF (linesL l) 0 none []
/-- The text of an operation's numbers, from the j-th on: n of them, the others nought. -/
def argTx (n : Int) : Nat → List Int → Option (List UInt8)
  | _, [] => some []
  | j, x :: r => if (j : Int) < n then (argTx n (j + 1) r).map (32 :: decL x ++ ·) else if x = 0 then argTx n (j + 1) r else none
/-- An operation's line. -/
def opTx (o : OpT) : Option (List UInt8) :=
  if takesL o.1 < 0 then none else (argTx (takesL o.1) 0 [o.2.1, o.2.2.1, o.2.2.2]).map (namesL.getD o.1.toNat [] ++ ·)
def opsTx : List OpT → Option (List UInt8)
  | [] => some []
  | o :: r => match opTx o, opsTx r with
    | some x, some y => some (x ++ 10 :: y)
    | _, _ => none
/-- A title that does not go through a line. -/
def apartL (t : List UInt8) : Bool := t.any (fun b => b.toNat == 35) || (t.head? == some 32) || (t.getLast? == some 32)
/-- A program's text; none: it has none. -/
def printL (t : List UInt8) (l : List OpT) : List UInt8 :=
  if formL t l = true ∧ apartL t = false then (match opsTx l with | some y => ttlW ++ 32 :: t ++ 10 :: y | none => []) else []

theorem dec_is {l : List UInt8} {x : Nat} (hx : x < 128) (h : (dec l).1 = x) : bt l 0 = x ∧ dec l = (x, 1) := by
  by_cases h0 : bt l 0 < 128
  · have := dec_low h0
    rw [this] at h
    dsimp only at h
    exact ⟨h, by rw [this, h]⟩
  · have := (dec_high (l := l) (by omega)).1; omega
theorem dec_isnt {l : List UInt8} {x : Nat} (hx : x < 128) (h : (dec l).1 ≠ x) : ∀ j, j < (dec l).2 → bt l j ≠ x := by
  intro j hj
  by_cases h0 : bt l 0 < 128
  · have := dec_low h0
    rw [this] at h hj
    dsimp only at h hj
    obtain rfl : j = 0 := by omega
    exact h
  · have := (dec_high (l := l) (by omega)).2 j hj; omega

theorem byte_at {l : List UInt8} {p : Nat} (h : p < l.length) : l.drop p = l[p] :: l.drop (p + 1) ∧ bt l p = l[p].toNat := ⟨List.drop_eq_getElem_cons h, bt_get h⟩
theorem cutH_stop {l : List UInt8} {p : Nat} (hp : p < l.length) (h : bt l p = 35) : cutH (l.drop p) = [] := by
  rw [(byte_at hp).1]; unfold cutH
  rw [List.takeWhile_cons, if_neg]
  rw [← (byte_at hp).2, h]; decide
theorem cutH_go {l : List UInt8} {p : Nat} (k : Nat) (hp : p + k ≤ l.length) (h : ∀ j, j < k → bt (l.drop p) j ≠ 35) : cutH (l.drop p) = (l.drop p).take k ++ cutH (l.drop (p + k)) := by
  induction k generalizing p with
  | zero => simp
  | succ k ih =>
    have hp' : p < l.length := by omega
    have h0 := h 0 (by omega)
    rw [bt_drop, Nat.add_zero, (byte_at hp').2] at h0
    conv => lhs; rw [(byte_at hp').1]
    conv => rhs; rw [(byte_at hp').1]
    unfold cutH
    rw [List.takeWhile_cons, if_pos (by simpa using h0), List.take_succ_cons, List.cons_append]
    congr 1
    have := ih (p := p + 1) (by omega) (fun j hj => by
      have := h (j + 1) (by omega)
      rw [bt_drop] at this ⊢
      rwa [show p + 1 + j = p + (j + 1) by omega])
    unfold cutH at this
    rw [this, show p + 1 + k = p + (k + 1) by omega]
theorem cutH_le (l : List UInt8) : (cutH l).length ≤ l.length := (List.takeWhile_sublist _).length_le
theorem skipB_cons {l : List UInt8} (h : l ≠ []) : skipB l = if bt l 0 = 32 ∨ bt l 0 = 9 then skipB (l.drop 1) else l := by
  obtain ⟨b, t, rfl⟩ := List.exists_cons_of_ne_nil h
  show List.dropWhile blank (b :: t) = if b.toNat = 32 ∨ b.toNat = 9 then _ else _
  rw [List.dropWhile_cons]
  unfold blank
  by_cases h1 : b.toNat = 32 ∨ b.toNat = 9
  · rw [if_pos h1, if_pos (by simpa using h1)]; rfl
  · rw [if_neg h1, if_neg (by simpa using h1)]
theorem skipB_nil : skipB [] = [] := rfl
theorem endB_nil : endB [] = [] := rfl
theorem endB_snoc {l : List UInt8} (h : l ≠ []) : endB l = if bt l (l.length - 1) = 32 ∨ bt l (l.length - 1) = 9 then endB (l.take (l.length - 1)) else l := by
  obtain ⟨t, b, rfl⟩ : ∃ t b, l = t ++ [b] := ⟨l.dropLast, l.getLast h, (List.dropLast_concat_getLast h).symm⟩
  have e : bt (t ++ [b]) ((t ++ [b]).length - 1) = b.toNat := by simp [bt]
  rw [e]
  unfold endB
  rw [List.reverse_append, List.reverse_singleton, List.singleton_append, List.dropWhile_cons]
  unfold blank
  by_cases h1 : b.toNat = 32 ∨ b.toNat = 9
  · rw [if_pos h1, if_pos (by simpa using h1)]; simp
  · rw [if_neg h1, if_neg (by simpa using h1)]; simp
theorem skipB_le (l : List UInt8) : (skipB l).length ≤ l.length := (List.dropWhile_sublist _).length_le
theorem endB_le (l : List UInt8) : (endB l).length ≤ l.length := by
  unfold endB; rw [List.length_reverse]; exact Nat.le_trans (List.dropWhile_sublist _).length_le (by simp)
theorem bareL_le (l : List UInt8) : (bareL l).length ≤ l.length := Nat.le_trans (endB_le _) (Nat.le_trans (skipB_le _) (cutH_le _))
theorem split_skip : ∀ (k : Nat) (t cur : List UInt8), k ≤ t.length → (∀ j, j < k → bt t j ≠ 10) → splitL t cur = splitL (t.drop k) (cur ++ t.take k)
  | 0, t, cur, _, _ => by simp
  | k + 1, [], cur, h, _ => by simp at h
  | k + 1, b :: t, cur, h, hb => by
    have h1 : b.toNat ≠ 10 := hb 0 (by omega)
    rw [splitL, if_neg h1, split_skip k t _ (by simpa using h) (fun j hj => hb (j + 1) (by omega))]
    simp
theorem split_at {l cur : List UInt8} {p : Nat} (hp : p < l.length) (h : bt l p = 10) : splitL (l.drop p) cur = cur :: splitL (l.drop (p + 1)) [] := by
  rw [(byte_at hp).1, splitL, if_pos (by rw [← (byte_at hp).2, h])]
theorem split_len : ∀ (t cur : List UInt8), (splitL t cur).length ≤ t.length + 1
  | [], cur => by simp [splitL]
  | b :: t, cur => by
    rw [splitL]
    split
    · have := split_len t []; simp; omega
    · have := split_len t (cur ++ [b]); simp; omega
theorem split_sum : ∀ (t cur x : List UInt8), x ∈ splitL t cur → x.length ≤ t.length + cur.length
  | [], cur, x, h => by simp [splitL] at h; subst h; omega
  | b :: t, cur, x, h => by
    rw [splitL] at h
    split at h
    · rcases List.mem_cons.mp h with rfl | h
      · simp
      · have := split_sum t [] x h; simp at this ⊢; omega
    · have := split_sum t _ x h; simp at this ⊢; omega
theorem lines_le {l x : List UInt8} (h : x ∈ linesL l) : x.length ≤ l.length := by
  obtain ⟨y, hy, rfl⟩ := List.mem_map.mp h
  have := split_sum l [] y hy
  have := bareL_le y
  simp at *; omega
end Go.Proofs.YtbmgiidecidojaaDoor
