/- Plain law of programs' bytes: what bytes are read as; just a program's own bytes are read as it. No program in sight. -/
import Derived.Test.YtehelhennbcboaaOpsP
import Derived.Test.YtehelhennbcboaaCodE
namespace Go.Proofs.Ytehelhennbcboaa
open Go.RowKit

/-- A number that is read: what is told; what is left; has something not gone? -/
def rdN (s : List UInt8 × Bool) : Int × (List UInt8 × Bool) :=
  ((getL s.1).1, (if s.2 || (getL s.1).2.2 != 0 then s.1 else s.1.drop (getL s.1).2.1), s.2 || (getL s.1).2.2 != 0)
def rdOp (s : List UInt8 × Bool) : OpT × (List UInt8 × Bool) :=
  (((rdN s).1, (rdN (rdN s).2).1, (rdN (rdN (rdN s).2).2).1, (rdN (rdN (rdN (rdN s).2).2).2).1), (rdN (rdN (rdN (rdN s).2).2).2).2)
def rdOps : Nat → Int → List OpT → List UInt8 × Bool → List OpT × (List UInt8 × Bool)
  | 0, _, ops, s => (ops, s)
  | f + 1, k, ops, s => if 0 < k ∧ s.2 = false then rdOps f (k - 1) (ops ++ [(rdOp s).1]) (rdOp s).2 else (ops, s)
/-- What Decode reads ahead of its last look. -/
def runD (b : List UInt8) : List UInt8 × (List OpT × (List UInt8 × Bool)) :=
  ((textL b).1, rdOps 65 (rdN (b.drop (textL b).2.1, false)).1 [] (rdN (b.drop (textL b).2.1, false)).2)
/-- What bytes are read as. -/
def decB (b : List UInt8) : Option (List UInt8 × List OpT) :=
  if (textL b).2.2 = 0 ∧ (runD b).2.2.2 = false ∧ formL (runD b).1 (runD b).2.1 = true ∧ encB (runD b).1 (runD b).2.1 = b then some ((runD b).1, (runD b).2.1) else none

theorem rdN_put {n : Int} (h0 : -9223372036854775808 ≤ n) (h1 : n ≤ 9223372036854775807) (rest : List UInt8) : rdN (putL n ++ rest, false) = (n, rest, false) := by
  unfold rdN
  rw [get_put h0 h1]
  simp
theorem rdOp_put {o : OpT} (h : okO o) (rest : List UInt8) : rdOp (putAll (nums o) ++ rest, false) = (o, rest, false) := by
  obtain ⟨x, a, b, c⟩ := o
  have e : putAll (nums (x, a, b, c)) ++ rest = putL x ++ (putL a ++ (putL b ++ (putL c ++ rest))) := by simp [putAll, nums]
  obtain ⟨h1, h2, h3, h4⟩ := h
  unfold okI at h1 h2 h3 h4
  unfold rdOp
  rw [e, rdN_put h1.1 h1.2, rdN_put h2.1 h2.2, rdN_put h3.1 h3.2, rdN_put h4.1 h4.2]
theorem rdOps_put : ∀ (l : List OpT) (f : Nat) (ops : List OpT) (rest : List UInt8), (∀ o ∈ l, okO o) → l.length < f → rdOps f l.length ops (putAll (l.flatMap nums) ++ rest, false) = (ops ++ l, (rest, false))
  | [], f, ops, rest, _, hf => by
    obtain ⟨g, rfl⟩ : ∃ g, f = g + 1 := ⟨f - 1, by simp at hf; omega⟩
    simp [rdOps, putAll]
  | o :: l, f, ops, rest, ho, hf => by
    obtain ⟨g, rfl⟩ : ∃ g, f = g + 1 := ⟨f - 1, by simp at hf; omega⟩
    have e : putAll ((o :: l).flatMap nums) ++ rest = putAll (nums o) ++ (putAll (l.flatMap nums) ++ rest) := by simp [putAll]
    unfold rdOps
    rw [if_pos ⟨by rw [List.length_cons]; omega, rfl⟩, e, rdOp_put (ho o (List.mem_cons_self ..))]
    have hk : (((o :: l).length : Nat) : Int) - 1 = (l.length : Nat) := by rw [List.length_cons]; omega
    rw [hk]
    show rdOps g _ (ops ++ [o]) (putAll (l.flatMap nums) ++ rest, false) = _
    rw [rdOps_put l g (ops ++ [o]) rest (fun x hx => ho x (List.mem_cons_of_mem _ hx)) (by rw [List.length_cons] at hf; omega)]
    simp
theorem form_ok {t : List UInt8} {l : List OpT} (h : formL t l = true) : ∀ o ∈ l, okO o := by
  unfold formL at h
  simp only [Bool.and_eq_true, List.all_eq_true] at h
  intro o ho
  have := h.2 o ho
  simp only [smallO, smallI, Bool.and_eq_true, decide_eq_true_eq] at this
  unfold okO okI
  omega
theorem form_lens {t : List UInt8} {l : List OpT} (h : formL t l = true) : 1 ≤ l.length ∧ l.length ≤ 64 ∧ t.length ≤ 80 := by
  unfold formL at h
  simp only [Bool.and_eq_true, decide_eq_true_eq] at h
  exact ⟨h.1.1.2, h.1.2, title_len h.1.1.1⟩
theorem run_enc {t : List UInt8} {l : List OpT} (h : formL t l = true) (rest : List UInt8) : (textL (encB t l ++ rest)).2.2 = 0 ∧ runD (encB t l ++ rest) = (t, (l, (rest, false))) := by
  obtain ⟨h1, h2, h3⟩ := form_lens h
  have e : encB t l ++ rest = bytesL t ++ (putL l.length ++ (putAll (l.flatMap nums) ++ rest)) := by unfold encB; simp
  have ht := text_put t (putL l.length ++ (putAll (l.flatMap nums) ++ rest)) (by omega)
  rw [← e] at ht
  refine ⟨by rw [ht], ?_⟩
  unfold runD
  rw [ht]
  have hd : (encB t l ++ rest).drop (bytesL t).length = putL l.length ++ (putAll (l.flatMap nums) ++ rest) := by rw [e]; simp
  simp only [hd]
  rw [rdN_put (by omega) (by omega)]
  simp only
  rw [rdOps_put l 65 [] rest (form_ok h) (by omega)]
  simp
theorem dec_iff {b t : List UInt8} {l : List OpT} : decB b = some (t, l) ↔ formL t l = true ∧ encB t l = b := by
  unfold decB
  constructor
  · intro h
    split at h
    · rename_i hc
      injection h with h
      injection h with h1 h2
      rw [← h1, ← h2]
      exact ⟨hc.2.2.1, hc.2.2.2⟩
    · cases h
  · rintro ⟨h, rfl⟩
    have hr := run_enc h []
    rw [List.append_nil] at hr
    rw [if_pos ⟨hr.1, by rw [hr.2], by rw [hr.2]; exact h, by rw [hr.2]⟩, hr.2]
theorem dec_enc {t : List UInt8} {l : List OpT} (h : formL t l = true) : decB (encB t l) = some (t, l) := dec_iff.2 ⟨h, rfl⟩
theorem enc_inj {t t' : List UInt8} {l l' : List OpT} (h : formL t l = true) (h' : formL t' l' = true) (rest : List UInt8) (e : encB t l ++ rest = encB t' l') : t = t' ∧ l = l' ∧ rest = [] := by
  have h1 := (run_enc h rest).2
  have h2 := (run_enc h' []).2
  rw [List.append_nil, ← e, h1] at h2
  injection h2 with a b
  injection b with b c
  injection c with c _
  exact ⟨a, b, c⟩
theorem dec_more {t : List UInt8} {l : List OpT} (h : formL t l = true) {rest : List UInt8} (hr : rest ≠ []) : decB (encB t l ++ rest) = none := by
  cases hd : decB (encB t l ++ rest) with
  | none => rfl
  | some p =>
    obtain ⟨t', l'⟩ := p
    obtain ⟨h', e⟩ := dec_iff.1 hd
    exact absurd (enc_inj h h' rest e.symm).2.2 hr
theorem dec_cut {t : List UInt8} {l : List OpT} (h : formL t l = true) {k : Nat} (hk : k < (encB t l).length) : decB ((encB t l).take k) = none := by
  cases hd : decB ((encB t l).take k) with
  | none => rfl
  | some p =>
    obtain ⟨t', l'⟩ := p
    obtain ⟨h', e⟩ := dec_iff.1 hd
    have := (enc_inj h' h ((encB t l).drop k) (by rw [e, List.take_append_drop])).2.2
    have h2 := congrArg List.length this
    rw [List.length_drop] at h2
    simp at h2
    omega

/-- What is told of bytes is a number of 64 bits. -/
theorem zag_ok {u : Nat} (h : u < 18446744073709551616) : okI (zag u) := by unfold zag okI; split <;> omega
theorem getGo_ok : ∀ (l : List UInt8) (i u : Nat), i ≤ 9 → u < 128 ^ i → okI (getGo i u l).1
  | [], i, u, _, _ => by simp [getGo, okI]
  | c :: r, i, u, hi, hu => by
    have hc := c.toNat_lt
    have hp : (128 : Nat) ^ i ≤ 128 ^ 9 := Nat.pow_le_pow_right (by decide) hi
    have e9 : (128 : Nat) ^ 9 = 9223372036854775808 := by decide
    have hm : c.toNat % 128 * 128 ^ i ≤ 127 * 128 ^ i := Nat.mul_le_mul_right _ (by omega)
    have hs : (128 : Nat) ^ (i + 1) = 128 * 128 ^ i := pow128 i
    unfold getGo
    rw [two_pow7]
    by_cases h1 : i = 9 ∧ 1 < c.toNat
    · rw [if_pos h1]; simp [okI]
    rw [if_neg h1]
    by_cases h2 : 127 < c.toNat
    · rw [if_pos h2]
      exact getGo_ok r (i + 1) _ (by omega) (by rw [hs]; omega)
    rw [if_neg h2]
    by_cases h3 : 0 < i ∧ c.toNat = 0
    · rw [if_pos h3]; simp [okI]
    rw [if_neg h3]
    refine zag_ok ?_
    by_cases h9 : i = 9
    · subst h9
      have : c.toNat % 128 * 128 ^ 9 ≤ 1 * 128 ^ 9 := Nat.mul_le_mul_right _ (by omega)
      omega
    · have hp8 : (128 : Nat) ^ (i + 1) ≤ 128 ^ 9 := Nat.pow_le_pow_right (by decide) (by omega)
      omega
theorem get_ok (l : List UInt8) : okI (getL l).1 := getGo_ok l 0 0 (by decide) (by decide)
end Go.Proofs.Ytehelhennbcboaa
