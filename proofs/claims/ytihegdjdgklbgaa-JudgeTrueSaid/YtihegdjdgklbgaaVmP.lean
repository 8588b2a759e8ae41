/- Plain words on frames: a game of 32 numbers, what an operation does, what a frame does. No program in sight but for the words of the other files. -/
import Derived.Test.YtihegdjdgklbgaaVmW
import Derived.Test.YtihegdjdgklbgaaOpsP
namespace Go.Proofs.Ytihegdjdgklbgaa
set_option maxRecDepth 100000
open Go.RowKit

/-- The rune of a title whose number is n; 0: there is none. -/
def runeN (l : List UInt8) (n : Int) : Nat := if 0 ≤ n then (((rs l)[n.toNat]?).map (·.1)).getD 0 else 0
def getN (g : List Int) (i : Int) : Int := g.getD i.toNat 0
def setN (g : List Int) (i : Int) (v : Int) : List Int := g.set i.toNat v
/-- What a player pressed. -/
def inN (press : List UInt8) (who : Int) : Int := if who < 0 then 0 else (bt press who.toNat : Nat)
/-- What an operation sets its first cell to. -/
def valN (t press : List UInt8) (frame : Int) (g : List Int) (o : OpT) : Int :=
  if o.1 = 1 then w32 o.2.2.1
  else if o.1 = 2 then getN g o.2.2.1
  else if o.1 = 11 then inN press (getN g o.2.2.1)
  else if o.1 = 12 then getN g (remN (getN g o.2.2.1) : Nat)
  else if o.1 = 14 then (runeN t (getN g o.2.2.1) : Nat)
  else if o.1 = 15 then w32 frame
  else sumN o.1 (getN g o.2.2.1) (getN g o.2.2.2)
/-- What an operation does that is no halt: the game, and where it goes on. -/
def oneN (t press : List UInt8) (frame : Int) (g : List Int) (k : Nat) (o : OpT) : List Int × Nat :=
  if o.1 = 9 then (g, o.2.1.toNat)
  else if o.1 = 10 then (g, if getN g o.2.1 = 0 then o.2.2.1.toNat else k + 1)
  else if o.1 = 13 then (setN g (remN (getN g o.2.1) : Nat) (getN g o.2.2.1), k + 1)
  else (setN g o.2.1 (valN t press frame g o), k + 1)
/-- A frame from an operation on, with so much fuel: the game, and how many operations were done. -/
def runN (t press : List UInt8) (frame : Int) (l : List OpT) : Nat → Nat → List Int → List Int × Nat
  | 0, _, g => (g, 0)
  | f + 1, k, g =>
    match l[k]? with
    | none => (g, 0)
    | some o => if o.1 = 0 then (g, 1) else ((runN t press frame l f (oneN t press frame g k o).2 (oneN t press frame g k o).1).1, (runN t press frame l f (oneN t press frame g k o).2 (oneN t press frame g k o).1).2 + 1)
/-- A frame. -/
def stepN (t press : List UInt8) (frame : Int) (l : List OpT) (g : List Int) : List Int × Nat := if faultL t l = -1 then runN t press frame l 200 0 g else (g, 0)

/-- A game: 32 numbers of 32 bits. -/
def okG (g : List Int) : Prop := g.length = 32 ∧ ∀ x ∈ g, ok32 x
theorem getN_ok {g : List Int} (h : okG g) (i : Int) : ok32 (getN g i) := by
  unfold getN
  rw [List.getD_eq_getElem?_getD]
  cases e : g[i.toNat]? with
  | none => simp [ok32]
  | some x => exact h.2 x (List.mem_of_getElem? e)
theorem setN_ok {g : List Int} (h : okG g) (i : Int) {v : Int} (hv : ok32 v) : okG (setN g i v) := by
  refine ⟨by simp [setN, h.1], fun x hx => ?_⟩
  rcases List.mem_or_eq_of_mem_set hx with h1 | h1
  · exact h.2 x h1
  · subst h1; exact hv
theorem inN_ok (press : List UInt8) (who : Int) : ok32 (inN press who) := by
  unfold inN ok32
  split
  · omega
  · have := bt_lt press who.toNat; omega
theorem rs_most (l : List UInt8) : ∀ x ∈ rs l, x.1 ≤ 1114111 := by
  have h : ∀ f (l : List UInt8), ∀ x ∈ rsF f l, x.1 ≤ 1114111 := by
    intro f
    induction f with
    | zero => intro l x hx; simp [rsF] at hx
    | succ f ih =>
      intro l x hx
      unfold rsF at hx
      split at hx
      · simp at hx
      · rcases List.mem_cons.1 hx with rfl | h1
        · exact dec_most _
        · exact ih _ x h1
  exact h _ l
theorem runeN_le (l : List UInt8) (n : Int) : runeN l n ≤ 1114111 := by
  unfold runeN
  split
  · cases e : (rs l)[n.toNat]? with
    | none => simp
    | some x =>
      have hm := List.mem_of_getElem? e
      simp only [Option.map_some, Option.getD_some]
      exact rs_most l x hm
  · omega
theorem valN_ok (t press : List UInt8) (frame : Int) {g : List Int} (h : okG g) (o : OpT) : ok32 (valN t press frame g o) := by
  unfold valN
  repeat' split
  · exact w32_ok _
  · exact getN_ok h _
  · exact inN_ok _ _
  · exact getN_ok h _
  · have := runeN_le t (getN g o.2.2.1); unfold ok32; omega
  · exact w32_ok _
  · exact sumN_ok _ _ _
theorem oneN_ok (t press : List UInt8) (frame : Int) {g : List Int} (h : okG g) (k : Nat) (o : OpT) : okG (oneN t press frame g k o).1 := by
  unfold oneN
  split
  · exact h
  split
  · exact h
  split
  · exact setN_ok h _ (getN_ok h _)
  · exact setN_ok h _ (valN_ok _ _ _ h _)
theorem runN_zero (t press : List UInt8) (frame : Int) (l : List OpT) (k : Nat) (g : List Int) : runN t press frame l 0 k g = (g, 0) := rfl
theorem runN_end (t press : List UInt8) (frame : Int) (l : List OpT) (f k : Nat) (g : List Int) (h : l.length ≤ k) : runN t press frame l f k g = (g, 0) := by
  cases f with
  | zero => rfl
  | succ f => unfold runN; rw [List.getElem?_eq_none h]
theorem runN_halt (t press : List UInt8) (frame : Int) (l : List OpT) (f k : Nat) (g : List Int) (h : k < l.length) (h0 : l[k].1 = 0) : runN t press frame l (f + 1) k g = (g, 1) := by
  unfold runN; rw [List.getElem?_eq_getElem h]; simp only [h0, if_true]
theorem runN_go (t press : List UInt8) (frame : Int) (l : List OpT) (f k : Nat) (g : List Int) (h : k < l.length) (h0 : l[k].1 ≠ 0) :
    runN t press frame l (f + 1) k g = ((runN t press frame l f (oneN t press frame g k l[k]).2 (oneN t press frame g k l[k]).1).1, (runN t press frame l f (oneN t press frame g k l[k]).2 (oneN t press frame g k l[k]).1).2 + 1) := by
  conv => lhs; unfold runN
  rw [List.getElem?_eq_getElem h]; simp only [h0, if_false]
theorem runN_ok (t press : List UInt8) (frame : Int) (l : List OpT) : ∀ (f k : Nat) {g : List Int}, okG g → okG (runN t press frame l f k g).1 ∧ (runN t press frame l f k g).2 ≤ f
  | 0, k, g, h => ⟨h, Nat.le_refl _⟩
  | f + 1, k, g, h => by
    by_cases hk : k < l.length
    · by_cases h0 : l[k].1 = 0
      · rw [runN_halt _ _ _ _ _ _ _ hk h0]; exact ⟨h, by simp⟩
      · rw [runN_go _ _ _ _ _ _ _ hk h0]
        have := runN_ok t press frame l f (oneN t press frame g k l[k]).2 (oneN_ok t press frame h k l[k])
        exact ⟨this.1, by simpa using this.2⟩
    · rw [runN_end _ _ _ _ _ _ _ (by omega)]; exact ⟨h, Nat.zero_le _⟩
theorem stepN_ok (t press : List UInt8) (frame : Int) (l : List OpT) {g : List Int} (h : okG g) : okG (stepN t press frame l g).1 := by
  unfold stepN
  split
  · exact (runN_ok _ _ _ _ _ _ h).1
  · exact h

/-- What is known of an operation that may be. -/
theorem badGo_all : ∀ {l : List OpT} {m k : Nat}, badGo m k l = -1 → ∀ o ∈ l, mayL o m = true
  | [], _, _, _, o, ho => by simp at ho
  | x :: l, m, k, h, o, ho => by
    have e : badGo m k (x :: l) = if mayL x m then badGo m (k + 1) l else (k : Int) := rfl
    rw [e] at h
    by_cases hx : mayL x m = true
    · rw [if_pos hx] at h
      rcases List.mem_cons.1 ho with rfl | h1
      · exact hx
      · exact badGo_all h o h1
    · rw [if_neg hx] at h; omega
theorem fault_all {t : List UInt8} {l : List OpT} (h : faultL t l = -1) : ∀ o ∈ l, mayL o l.length = true := by
  unfold faultL at h
  split at h
  · exact badGo_all h
  · cases h
theorem fault_form {t : List UInt8} {l : List OpT} (h : faultL t l = -1) : formL t l = true := by
  unfold faultL at h
  split at h
  · assumption
  · cases h
/-- The codes, and what stands behind each. -/
theorem may_ways {o : OpT} {m : Nat} (h : mayL o m = true) :
    o.1 = 0 ∨ (o.1 = 9 ∧ 0 ≤ o.2.1 ∧ o.2.1 ≤ m) ∨ (o.1 = 10 ∧ 0 ≤ o.2.1 ∧ o.2.1 ≤ 31 ∧ 0 ≤ o.2.2.1 ∧ o.2.2.1 ≤ m) ∨ (o.1 = 1 ∧ 0 ≤ o.2.1 ∧ o.2.1 ≤ 31) ∨ (o.1 = 15 ∧ 0 ≤ o.2.1 ∧ o.2.1 ≤ 31) ∨
      ((o.1 = 2 ∨ 11 ≤ o.1 ∧ o.1 ≤ 14) ∧ 0 ≤ o.2.1 ∧ o.2.1 ≤ 31 ∧ 0 ≤ o.2.2.1 ∧ o.2.2.1 ≤ 31) ∨ ((3 ≤ o.1 ∧ o.1 ≤ 8) ∧ 0 ≤ o.2.1 ∧ o.2.1 ≤ 31 ∧ 0 ≤ o.2.2.1 ∧ o.2.2.1 ≤ 31 ∧ 0 ≤ o.2.2.2 ∧ o.2.2.2 ≤ 31) := by
  unfold mayL cellI toI at h
  by_cases h0 : o.1 = 0
  · exact .inl h0
  rw [if_neg h0] at h
  by_cases h1 : o.1 = 1
  · rw [if_pos h1] at h; simp at h; omega
  rw [if_neg h1] at h
  by_cases h9 : o.1 = 9
  · rw [if_pos h9] at h; simp at h; omega
  rw [if_neg h9] at h
  by_cases h10 : o.1 = 10
  · rw [if_pos h10] at h; simp at h; omega
  rw [if_neg h10] at h
  by_cases h15 : o.1 = 15
  · rw [if_pos h15] at h; simp at h; omega
  rw [if_neg h15] at h
  by_cases h2 : o.1 = 2 ∨ 11 ≤ o.1 ∧ o.1 ≤ 14
  · rw [if_pos h2] at h; simp at h; omega
  rw [if_neg h2] at h
  by_cases h3 : 3 ≤ o.1 ∧ o.1 ≤ 8
  · rw [if_pos h3] at h; simp at h; omega
  rw [if_neg h3] at h
  cases h
theorem oneN_at {t press : List UInt8} {frame : Int} {g : List Int} {k m : Nat} {o : OpT} (h : mayL o m = true) (hk : k < m) : (oneN t press frame g k o).2 ≤ m := by
  have hw := may_ways h
  unfold oneN
  repeat' split
  all_goals first | (simp only; omega) | (simp only; split <;> omega)
end Go.Proofs.Ytihegdjdgklbgaa
