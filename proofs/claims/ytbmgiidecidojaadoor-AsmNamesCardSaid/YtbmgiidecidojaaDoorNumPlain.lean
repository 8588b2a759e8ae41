/- Plain law: numbers as bytes, bytes as numbers; no program in sight. -/
import Derived.Test.YtbmgiidecidojaaDoorKit
namespace Go.Proofs.YtbmgiidecidojaaDoor

/-- A number as a natural number, zig-zag. -/
def zig (n : Int) : Nat := if n < 0 then (-2 * n - 1).toNat else (2 * n).toNat
def zag (u : Nat) : Int := if u % 2 = 1 then -((u / 2 : Nat) : Int) - 1 else ((u / 2 : Nat) : Int)
theorem zag_zig (n : Int) : zag (zig n) = n := by
  unfold zag zig
  by_cases h : n < 0
  · rw [if_pos h, if_pos (by omega)]; omega
  · rw [if_neg h, if_neg (by omega)]; omega
theorem zig_lt {n : Int} (h0 : -9223372036854775808 ≤ n) (h1 : n ≤ 9223372036854775807) : zig n < 18446744073709551616 := by
  unfold zig; split <;> omega

/-- The bytes of a natural number, at most k of them. -/
def putF : Nat → Nat → List UInt8
  | 0, _ => []
  | k + 1, u => if u > 127 then UInt8.ofNat (u % 128 + 128) :: putF k (u / 128) else [UInt8.ofNat u]
def putL (n : Int) : List UInt8 := putF 10 (zig n)

/-- What bytes begin with: the number, how many bytes it took, the error. -/
def getGo : Nat → Nat → List UInt8 → Int × Nat × Int
  | _, _, [] => (0, 0, 2)
  | i, u, c :: r =>
    if i = 9 ∧ 1 < c.toNat then (0, 0, 1)
    else if 127 < c.toNat then getGo (i + 1) (u + (c.toNat % 128) * 2 ^ (7 * i)) r
    else if 0 < i ∧ c.toNat = 0 then (0, 0, 1)
    else (zag (u + (c.toNat % 128) * 2 ^ (7 * i)), i + 1, 0)
def getL (l : List UInt8) : Int × Nat × Int := getGo 0 0 l
def textL (l : List UInt8) : List UInt8 × Nat × Int :=
  let g := getL l
  if g.2.2 ≠ 0 then ([], 0, g.2.2)
  else if g.1 < 0 ∨ 65536 < g.1 then ([], 0, 1)
  else if ((l.length - g.2.1 : Nat) : Int) < g.1 then ([], 0, 2)
  else ((l.drop g.2.1).take g.1.toNat, g.2.1 + g.1.toNat, 0)
def bytesL (s : List UInt8) : List UInt8 := putL s.length ++ s
def fourL (n : Nat) : List UInt8 := [UInt8.ofNat (n / 16777216), UInt8.ofNat (n / 65536 % 256), UInt8.ofNat (n / 256 % 256), UInt8.ofNat (n % 256)]

theorem toNat_ofNat8 {n : Nat} (h : n < 256) : (UInt8.ofNat n).toNat = n := by simp [UInt8.toNat_ofNat']; omega

theorem putF_le : ∀ (k u : Nat), (putF k u).length ≤ k
  | 0, _ => by simp [putF]
  | k + 1, u => by
    unfold putF
    split
    · have := putF_le k (u / 128)
      simp; omega
    · simp
theorem putF_pos (k u : Nat) : 0 < (putF (k + 1) u).length := by unfold putF; split <;> simp
theorem putL_le (n : Int) : (putL n).length ≤ 10 := putF_le 10 _
theorem putL_pos (n : Int) : 0 < (putL n).length := putF_pos 9 _

/-- Fuel that is enough. -/
theorem pow128 (k : Nat) : 128 ^ (k + 1) = 128 * 128 ^ k := by rw [Nat.pow_succ, Nat.mul_comm]
theorem two_pow7 (i : Nat) : 2 ^ (7 * i) = 128 ^ i := by rw [Nat.pow_mul]

theorem getGo_put : ∀ (k i u v : Nat) (rest : List UInt8), i + k = 10 → (0 < i → 0 < v) → v * 128 ^ i < 18446744073709551616 →
    getGo i u (putF k v ++ rest) = if k = 0 then getGo i u rest else (zag (u + v * 128 ^ i), i + (putF k v).length, 0)
  | 0, i, u, v, rest, _, _, _ => by simp [putF]
  | k + 1, i, u, v, rest, hik, hv, hlt => by
    rw [if_neg (by omega)]
    have hpow : 128 ^ i * 128 ^ k = 128 ^ 9 := by rw [← Nat.pow_add]; congr 1; omega
    unfold putF
    by_cases h : v > 127
    · rw [if_pos h]
      have hk : k ≠ 0 := by
        intro h0
        subst h0
        obtain rfl : i = 9 := by omega
        have : 128 * 128 ^ 9 ≤ v * 128 ^ 9 := Nat.mul_le_mul_right _ (by omega)
        have e : (128 : Nat) * 128 ^ 9 = 1180591620717411303424 := by decide
        omega
      have ht : (UInt8.ofNat (v % 128 + 128)).toNat = v % 128 + 128 := toNat_ofNat8 (by omega)
      rw [List.cons_append, getGo, ht, if_neg (by omega), if_pos (by omega)]
      have hm : (v % 128 + 128) % 128 = v % 128 := by omega
      have hstep := Nat.div_add_mod v 128
      have he : v * 128 ^ i = v / 128 * 128 ^ (i + 1) + v % 128 * 128 ^ i := by
        rw [pow128, ← Nat.mul_assoc, Nat.mul_comm (v / 128) 128, ← Nat.add_mul, hstep]
      rw [hm, two_pow7, getGo_put k (i + 1) _ _ rest (by omega) (by omega) (by omega), if_neg hk]
      simp only [List.length_cons]
      rw [show u + v % 128 * 128 ^ i + v / 128 * 128 ^ (i + 1) = u + v * 128 ^ i from by omega, show i + 1 + (putF k (v / 128)).length = i + ((putF k (v / 128)).length + 1) from by omega]
    · rw [if_neg h]
      have ht : (UInt8.ofNat v).toNat = v := toNat_ofNat8 (by omega)
      have h9 : ¬ (i = 9 ∧ 1 < v) := by
        rintro ⟨rfl, h1⟩
        have : 2 * 128 ^ 9 ≤ v * 128 ^ 9 := Nat.mul_le_mul_right _ (by omega)
        have e : (2 : Nat) * 128 ^ 9 = 18446744073709551616 := by decide
        omega
      rw [List.cons_append, getGo, ht, if_neg h9, if_neg (by omega), if_neg (by omega), two_pow7]
      have : v % 128 = v := by omega
      rw [this]
      rfl

theorem get_put {n : Int} (h0 : -9223372036854775808 ≤ n) (h1 : n ≤ 9223372036854775807) (rest : List UInt8) : getL (putL n ++ rest) = (n, (putL n).length, 0) := by
  unfold getL putL
  rw [getGo_put 10 0 0 (zig n) rest rfl (by omega) (by have := zig_lt h0 h1; simpa using this)]
  simp [zag_zig]

theorem getGo_cut : ∀ (k i u v cut : Nat), i + k = 10 → (0 < i → 0 < v) → v * 128 ^ i < 18446744073709551616 → cut < (putF k v).length → getGo i u ((putF k v).take cut) = (0, 0, 2)
  | 0, i, u, v, cut, _, _, _, hc => by simp [putF] at hc
  | k + 1, i, u, v, 0, _, _, _, _ => by simp [getGo]
  | k + 1, i, u, v, cut + 1, hik, hv, hlt, hc => by
    unfold putF at hc ⊢
    by_cases h : v > 127
    · rw [if_pos h] at hc ⊢
      have hk : k ≠ 0 := by
        intro h0
        subst h0
        obtain rfl : i = 9 := by omega
        have : 128 * 128 ^ 9 ≤ v * 128 ^ 9 := Nat.mul_le_mul_right _ (by omega)
        have e : (128 : Nat) * 128 ^ 9 = 1180591620717411303424 := by decide
        omega
      have ht : (UInt8.ofNat (v % 128 + 128)).toNat = v % 128 + 128 := toNat_ofNat8 (by omega)
      have hstep := Nat.div_add_mod v 128
      have he : v * 128 ^ i = v / 128 * 128 ^ (i + 1) + v % 128 * 128 ^ i := by
        rw [pow128, ← Nat.mul_assoc, Nat.mul_comm (v / 128) 128, ← Nat.add_mul, hstep]
      rw [List.take_succ_cons, getGo, ht, if_neg (by omega), if_pos (by omega)]
      exact getGo_cut k (i + 1) _ _ cut (by omega) (by omega) (by omega) (by simpa using hc)
    · rw [if_neg h] at hc
      simp at hc
theorem get_cut {n : Int} (h0 : -9223372036854775808 ≤ n) (h1 : n ≤ 9223372036854775807) {cut : Nat} (hc : cut < (putL n).length) : getL ((putL n).take cut) = (0, 0, 2) :=
  getGo_cut 10 0 0 (zig n) cut rfl (by omega) (by have := zig_lt h0 h1; simpa using this) hc

theorem text_put (s rest : List UInt8) (hs : s.length ≤ 65536) : textL (bytesL s ++ rest) = (s, (bytesL s).length, 0) := by
  unfold textL bytesL
  rw [List.append_assoc, get_put (by omega) (by omega)]
  simp only [ne_eq, not_true_eq_false, if_false]
  rw [if_neg (by omega), if_neg (by simp; omega)]
  simp
theorem text_cut (s : List UInt8) (hs : s.length ≤ 65536) {cut : Nat} (hc : cut < (bytesL s).length) : textL ((bytesL s).take cut) = ([], 0, 2) := by
  unfold bytesL at hc ⊢
  rw [List.length_append] at hc
  rw [List.take_append]
  by_cases h : cut < (putL s.length).length
  · have e : cut - (putL s.length).length = 0 := by omega
    rw [e, List.take_zero, List.append_nil]
    unfold textL
    rw [get_cut (by omega) (by omega) h]
    simp
  · rw [List.take_of_length_le (by omega)]
    unfold textL
    rw [get_put (by omega) (by omega)]
    simp only [ne_eq, not_true_eq_false, if_false]
    rw [if_neg (by omega), if_pos (by simp; omega)]

/-- What is told of bytes lies within them. -/
theorem getGo_bd : ∀ (l : List UInt8) (i u : Nat), (getGo i u l).2.2 = 0 → i < (getGo i u l).2.1 ∧ (getGo i u l).2.1 ≤ i + l.length
  | [], i, u, h => by simp [getGo] at h
  | c :: r, i, u, h => by
    unfold getGo at h ⊢
    split at h
    · simp at h
    · rename_i h1
      rw [if_neg h1]
      split at h
      · rename_i h2
        rw [if_pos h2]
        have := getGo_bd r (i + 1) _ h
        simp only [List.length_cons]
        omega
      · rename_i h2
        rw [if_neg h2]
        split at h
        · simp at h
        · rename_i h3
          rw [if_neg h3]
          simp
theorem get_bd {l : List UInt8} (h : (getL l).2.2 = 0) : 0 < (getL l).2.1 ∧ (getL l).2.1 ≤ l.length := by
  have := getGo_bd l 0 0 h
  unfold getL
  omega
theorem getGo_err : ∀ (l : List UInt8) (i u : Nat), (getGo i u l).2.2 = 0 ∨ ((getGo i u l).2.2 = 1 ∨ (getGo i u l).2.2 = 2) ∧ (getGo i u l).1 = 0 ∧ (getGo i u l).2.1 = 0
  | [], i, u => by simp [getGo]
  | c :: r, i, u => by
    unfold getGo
    split
    · simp
    · split
      · exact getGo_err r _ _
      · split <;> simp

/-- Numbers one behind the other. -/
def putAll (l : List Int) : List UInt8 := l.flatMap putL
theorem putAll_le : ∀ l : List Int, (putAll l).length ≤ 10 * l.length
  | [] => by simp [putAll]
  | x :: l => by
    have h1 := putAll_le l
    have h2 := putL_le x
    simp only [putAll, List.flatMap_cons, List.length_append, List.length_cons] at h1 ⊢
    omega
theorem putAll_snoc (l : List Int) (x : Int) : putAll (l ++ [x]) = putAll l ++ putL x := by simp [putAll]
theorem putAll_cons (l : List Int) (x : Int) : putAll (x :: l) = putL x ++ putAll l := by simp [putAll]

theorem four_len (n : Nat) : (fourL n).length = 4 := rfl

end Go.Proofs.YtbmgiidecidojaaDoor
