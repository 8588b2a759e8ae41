/- Plain Lean on texts as runes: what the model's 'decode' gives at a place of a list of bytes, and the list of all runes with their widths. No program in sight. -/
import Derived.Test.YtbmgiidecidojaaDoorKit
import Derived.Laws.Runes
import Derived.Laws.RangeAny
namespace Go.Proofs.YtbmgiidecidojaaDoor
open Go.RowKit

/-- The k-th byte; nought behind the end. -/
def bt (l : List UInt8) (k : Nat) : Nat := (l.getD k 0).toNat
/-- A further byte of a rune stands at k. -/
def cnt (l : List UInt8) (k : Nat) : Prop := k < l.length ∧ bt l k / 64 = 2
instance (l k) : Decidable (cnt l k) := by unfold cnt; infer_instance
def c2 (l : List UInt8) : Nat := (bt l 0 % 32) * 64 + bt l 1 % 64
def c3 (l : List UInt8) : Nat := (bt l 0 % 16) * 4096 + (bt l 1 % 64) * 64 + bt l 2 % 64
def c4 (l : List UInt8) : Nat := (bt l 0 % 8) * 262144 + (bt l 1 % 64) * 4096 + (bt l 2 % 64) * 64 + bt l 3 % 64
/-- The first rune and its bytes. -/
def dec (l : List UInt8) : Nat × Nat :=
  if bt l 0 < 128 then (bt l 0, 1)
  else if bt l 0 / 32 = 6 ∧ cnt l 1 then (if 128 ≤ c2 l then (c2 l, 2) else (65533, 1))
  else if bt l 0 / 16 = 14 ∧ cnt l 1 ∧ cnt l 2 then (if 2048 ≤ c3 l ∧ ¬ (55296 ≤ c3 l ∧ c3 l < 57344) then (c3 l, 3) else (65533, 1))
  else if bt l 0 / 8 = 30 ∧ cnt l 1 ∧ cnt l 2 ∧ cnt l 3 then (if 65536 ≤ c4 l ∧ c4 l ≤ 1114111 then (c4 l, 4) else (65533, 1))
  else (65533, 1)

theorem bt_lt (l : List UInt8) (k : Nat) : bt l k < 256 := (l.getD k 0).toNat_lt
theorem bt_drop (l : List UInt8) (p k : Nat) : bt (l.drop p) k = bt l (p + k) := by
  unfold bt; rw [List.getD_eq_getElem?_getD, List.getD_eq_getElem?_getD, List.getElem?_drop]
theorem get_bs (l : List UInt8) (i : Nat) : ((bs l).get! i).toNat = bt l i := by
  unfold bt bs
  show (l.toArray[i]!).toNat = _
  rw [List.getD_eq_getElem?_getD]
  by_cases h : i < l.length
  · simp [h]
  · simp [h]; rfl
theorem cnt_iff (l : List UInt8) (p k : Nat) : (decide (p + k < (bs l).size) && (bt (l.drop p) k / 64 == 2)) = decide (cnt (l.drop p) k) := by
  rw [Bool.eq_iff_iff]
  simp only [Bool.and_eq_true, decide_eq_true_eq, beq_iff_eq]
  unfold cnt
  rw [bs_size, List.length_drop]
  exact and_congr_left fun _ => by omega
theorem bd_c (l : List UInt8) : c2 l < 2048 ∧ c3 l < 65536 ∧ c4 l < 2097152 := by
  unfold c2 c3 c4; omega

theorem ite_way {α : Type} {p q : Prop} [Decidable p] [Decidable q] (h : p ↔ q) (a b : α) : (if p then a else b) = if q then a else b := by
  by_cases hp : p
  · rw [if_pos hp, if_pos (h.mp hp)]
  · rw [if_neg hp, if_neg fun hq => hp (h.mpr hq)]

theorem decode_bs (l : List UInt8) (p : Nat) : Utf8.decode (bs l) p = dec (l.drop p) := by
  have hb : ∀ k, ((bs l).get! (p + k)).toNat = bt (l.drop p) k := fun k => by rw [get_bs, bt_drop]
  have hc := bd_c (l.drop p)
  simp only [Utf8.decode, hb, cnt_iff]
  generalize hl : l.drop p = m
  rw [hl] at hc
  unfold dec
  have hv : ∀ c : Nat, Utf8.valid (c : Int) = decide (¬ (55296 ≤ c ∧ c < 57344) ∧ c ≤ 1114111) := fun c => by
    rw [Utf8.valid, Bool.eq_iff_iff]
    simp only [Bool.or_eq_true, Bool.and_eq_true, decide_eq_true_eq]
    omega
  simp only [Bool.and_eq_true, decide_eq_true_eq, beq_iff_eq, hv, Utf8.runeError, ge_iff_le]
  unfold c2 c3 c4 at *
  have hx : bt m 0 % 16 * 4096 + bt m 1 % 64 * 64 + bt m 2 % 64 ≤ 1114111 := by omega
  clear hb hv hl
  by_cases h1 : bt m 0 < 128
  · simp only [h1, if_true]
  by_cases h2 : bt m 0 / 32 = 6 ∧ cnt m 1
  · simp only [h1, h2, and_self, if_true, if_false]
  by_cases h3 : bt m 0 / 16 = 14 ∧ cnt m 1 ∧ cnt m 2
  · have h3' : (bt m 0 / 16 = 14 ∧ cnt m 1) ∧ cnt m 2 := ⟨⟨h3.1, h3.2.1⟩, h3.2.2⟩
    rw [if_neg h1, if_neg h2, if_pos h3', if_neg h1, if_neg h2, if_pos h3]
    refine ite_way ?_ _ _
    exact ⟨fun h => ⟨h.1, h.2.1⟩, fun h => ⟨h.1, h.2, hx⟩⟩
  have h3' : ¬ ((bt m 0 / 16 = 14 ∧ cnt m 1) ∧ cnt m 2) := fun h => h3 ⟨h.1.1, h.1.2, h.2⟩
  by_cases h4 : bt m 0 / 8 = 30 ∧ cnt m 1 ∧ cnt m 2 ∧ cnt m 3
  · have h4' : ((bt m 0 / 8 = 30 ∧ cnt m 1) ∧ cnt m 2) ∧ cnt m 3 := ⟨⟨⟨h4.1, h4.2.1⟩, h4.2.2.1⟩, h4.2.2.2⟩
    rw [if_neg h1, if_neg h2, if_neg h3', if_pos h4', if_neg h1, if_neg h2, if_neg h3, if_pos h4]
    refine ite_way ?_ _ _
    exact ⟨fun h => ⟨h.1, h.2.2⟩, fun h => ⟨h.1, by omega, h.2⟩⟩
  have h4' : ¬ (((bt m 0 / 8 = 30 ∧ cnt m 1) ∧ cnt m 2) ∧ cnt m 3) := fun h => h4 ⟨h.1.1.1, h.1.1.2, h.1.2, h.2⟩
  rw [if_neg h1, if_neg h2, if_neg h3', if_neg h4', if_neg h1, if_neg h2, if_neg h3, if_neg h4]

/-- How many bytes a rune takes that came well. -/
def wideN (r : Nat) : Nat := if r < 128 then 1 else if r < 2048 then 2 else if r < 65536 then 3 else 4

theorem dec_ways (l : List UInt8) :
    bt l 0 < 128 ∧ dec l = (bt l 0, 1) ∨
    (128 ≤ bt l 0 ∧ cnt l 1 ∧ bt l 0 / 32 = 6 ∧ 128 ≤ c2 l ∧ dec l = (c2 l, 2)) ∨
    (128 ≤ bt l 0 ∧ cnt l 1 ∧ cnt l 2 ∧ bt l 0 / 16 = 14 ∧ 2048 ≤ c3 l ∧ ¬ (55296 ≤ c3 l ∧ c3 l < 57344) ∧ dec l = (c3 l, 3)) ∨
    (128 ≤ bt l 0 ∧ cnt l 1 ∧ cnt l 2 ∧ cnt l 3 ∧ bt l 0 / 8 = 30 ∧ 65536 ≤ c4 l ∧ c4 l ≤ 1114111 ∧ dec l = (c4 l, 4)) ∨
    (128 ≤ bt l 0 ∧ dec l = (65533, 1)) := by
  unfold dec
  by_cases h1 : bt l 0 < 128
  · rw [if_pos h1]; exact .inl ⟨h1, rfl⟩
  have h1' : 128 ≤ bt l 0 := by omega
  rw [if_neg h1]
  refine .inr ?_
  by_cases h2 : bt l 0 / 32 = 6 ∧ cnt l 1
  · rw [if_pos h2]
    by_cases h : 128 ≤ c2 l
    · rw [if_pos h]; exact .inl ⟨h1', h2.2, h2.1, h, rfl⟩
    · rw [if_neg h]; exact .inr (.inr (.inr ⟨h1', rfl⟩))
  rw [if_neg h2]
  refine .inr ?_
  by_cases h3 : bt l 0 / 16 = 14 ∧ cnt l 1 ∧ cnt l 2
  · rw [if_pos h3]
    by_cases h : 2048 ≤ c3 l ∧ ¬ (55296 ≤ c3 l ∧ c3 l < 57344)
    · rw [if_pos h]; exact .inl ⟨h1', h3.2.1, h3.2.2, h3.1, h.1, h.2, rfl⟩
    · rw [if_neg h]; exact .inr (.inr ⟨h1', rfl⟩)
  rw [if_neg h3]
  refine .inr ?_
  by_cases h4 : bt l 0 / 8 = 30 ∧ cnt l 1 ∧ cnt l 2 ∧ cnt l 3
  · rw [if_pos h4]
    by_cases h : 65536 ≤ c4 l ∧ c4 l ≤ 1114111
    · rw [if_pos h]; exact .inl ⟨h1', h4.2.1, h4.2.2.1, h4.2.2.2, h4.1, h.1, h.2, rfl⟩
    · rw [if_neg h]; exact .inr ⟨h1', rfl⟩
  rw [if_neg h4]
  exact .inr ⟨h1', rfl⟩

theorem dec_pos (l : List UInt8) : 1 ≤ (dec l).2 ∧ (dec l).2 ≤ 4 := by
  rcases dec_ways l with ⟨_, e⟩ | ⟨_, _, _, _, e⟩ | ⟨_, _, _, _, _, _, e⟩ | ⟨_, _, _, _, _, _, _, e⟩ | ⟨_, e⟩ <;> rw [e] <;> dsimp only <;> omega
theorem dec_le {l : List UInt8} (hl : 0 < l.length) : (dec l).2 ≤ l.length := by
  rcases dec_ways l with ⟨_, e⟩ | ⟨_, h, _, _, e⟩ | ⟨_, _, h, _, _, _, e⟩ | ⟨_, _, _, h, _, _, _, e⟩ | ⟨_, e⟩ <;> rw [e]
  · exact hl
  · exact h.1
  · exact h.1
  · exact h.1
  · exact hl
theorem dec_most (l : List UInt8) : (dec l).1 ≤ 1114111 := by
  have hc := bd_c l
  rcases dec_ways l with ⟨_, e⟩ | ⟨_, _, _, _, e⟩ | ⟨_, _, _, _, _, _, e⟩ | ⟨_, _, _, _, _, _, _, e⟩ | ⟨_, e⟩ <;> rw [e] <;> dsimp only <;> omega
theorem dec_wide (l : List UInt8) : wideN (dec l).1 = (dec l).2 ↔ ((dec l).1 ≠ 65533 ∨ (dec l).2 = 3) := by
  have hc := bd_c l
  unfold wideN
  rcases dec_ways l with ⟨_, e⟩ | ⟨_, _, _, _, e⟩ | ⟨_, _, _, _, _, _, e⟩ | ⟨_, _, _, _, _, _, _, e⟩ | ⟨_, e⟩ <;> rw [e] <;> dsimp only <;> (repeat' split) <;> omega
theorem dec_low {l : List UInt8} (h : bt l 0 < 128) : dec l = (bt l 0, 1) := by unfold dec; rw [if_pos h]
theorem dec_high {l : List UInt8} (h0 : 128 ≤ bt l 0) : 128 ≤ (dec l).1 ∧ ∀ k, k < (dec l).2 → 128 ≤ bt l k := by
  have hk : ∀ k, cnt l k → 128 ≤ bt l k := fun k h => by have := h.2; omega
  rcases dec_ways l with ⟨_, e⟩ | ⟨_, h, _, _, e⟩ | ⟨_, h, h', _, _, _, e⟩ | ⟨_, h, h', h'', _, _, _, e⟩ | ⟨_, e⟩ <;> rw [e] <;> dsimp only
  · omega
  · have := hk _ h
    exact ⟨by omega, fun k hk => by rcases (show k = 0 ∨ k = 1 by omega) with rfl | rfl <;> assumption⟩
  · have := hk _ h
    have := hk _ h'
    exact ⟨by omega, fun k hk => by rcases (show k = 0 ∨ k = 1 ∨ k = 2 by omega) with rfl | rfl | rfl <;> assumption⟩
  · have := hk _ h
    have := hk _ h'
    have := hk _ h''
    exact ⟨by omega, fun k hk => by rcases (show k = 0 ∨ k = 1 ∨ k = 2 ∨ k = 3 by omega) with rfl | rfl | rfl | rfl <;> assumption⟩
  · exact ⟨by omega, fun k hk => by rcases (show k = 0 by omega) with rfl; assumption⟩

/-- All runes, each with its bytes. -/
def rsF : Nat → List UInt8 → List (Nat × Nat)
  | 0, _ => []
  | f + 1, l => if l = [] then [] else dec l :: rsF f (l.drop (dec l).2)
def rs (l : List UInt8) : List (Nat × Nat) := rsF l.length l
theorem rsF_enough : ∀ f g (l : List UInt8), l.length ≤ f → l.length ≤ g → rsF f l = rsF g l
  | 0, 0, _, _, _ => rfl
  | 0, g + 1, l, h, _ => by rw [List.eq_nil_of_length_eq_zero (Nat.le_zero.mp h)]; simp [rsF]
  | f + 1, 0, l, _, h => by rw [List.eq_nil_of_length_eq_zero (Nat.le_zero.mp h)]; simp [rsF]
  | f + 1, g + 1, l, h, h' => by
    unfold rsF
    split
    · rfl
    · have := (dec_pos l).1
      rw [rsF_enough f g _ (by rw [List.length_drop]; omega) (by rw [List.length_drop]; omega)]
theorem rs_nil : rs [] = [] := rfl
theorem rs_cons {l : List UInt8} (h : l ≠ []) : rs l = dec l :: rs (l.drop (dec l).2) := by
  have h0 := List.length_pos_iff.mpr h
  have h1 := (dec_pos l).1
  unfold rs
  obtain ⟨n, hn⟩ : ∃ n, l.length = n + 1 := ⟨l.length - 1, by omega⟩
  conv => lhs; rw [hn, rsF, if_neg h]
  rw [rsF_enough n _ _ (by rw [List.length_drop]; omega) (Nat.le_refl _)]
/-- The runes from place p on: for a loop. -/
theorem rs_at {l : List UInt8} {p : Nat} (h : p < l.length) : rs (l.drop p) = dec (l.drop p) :: rs (l.drop (p + (dec (l.drop p)).2)) := by
  rw [rs_cons (by intro e; have := congrArg List.length e; simp at this; omega), List.drop_drop]
theorem rs_end {l : List UInt8} {p : Nat} (h : l.length ≤ p) : rs (l.drop p) = [] := by rw [List.drop_eq_nil_of_le h]; rfl
theorem rs_len (l : List UInt8) : (rs l).length ≤ l.length := by
  suffices ∀ f (l : List UInt8), (rsF f l).length ≤ f from this _ _
  intro f
  induction f with
  | zero => intro l; simp [rsF]
  | succ f ih => intro l; unfold rsF; split <;> simp [ih]
theorem dec_at_le {l : List UInt8} {p : Nat} (h : p < l.length) : 1 ≤ (dec (l.drop p)).2 ∧ p + (dec (l.drop p)).2 ≤ l.length := by
  have := dec_le (l := l.drop p) (by rw [List.length_drop]; omega)
  rw [List.length_drop] at this
  exact ⟨(dec_pos _).1, by omega⟩

/-- A rune that stands there. -/
def wellR (x : Nat × Nat) : Bool := x.1 != 65533 || x.2 == 3
def goodL (l : List UInt8) : Bool := (rs l).all wellR
/-- A rune of a title. -/
def plainR (x : Nat × Nat) : Bool := decide (32 ≤ x.1) && x.1 != 127
def titleL (l : List UInt8) : Bool := (rs l).all plainR && decide (1 ≤ (rs l).length) && decide ((rs l).length ≤ 20) && goodL l
end Go.Proofs.YtbmgiidecidojaaDoor
