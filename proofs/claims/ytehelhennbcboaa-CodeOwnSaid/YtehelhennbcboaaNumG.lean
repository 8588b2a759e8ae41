/- The walk of Get: of package num and its reference: what each function computes. -/
import Derived.Test.YtehelhennbcboaaRows
import Derived.Test.YtehelhennbcboaaNumPlain
namespace Go.Proofs.Ytehelhennbcboaa
open Go.RowKit


/-- What holds at the head of Get's loop. -/
def GetRel (l : List UInt8) (u i : Value) : Prop := ∃ k q : Nat, i = .int .i64 k ∧ u = .int .u64 q ∧ k ≤ l.length ∧ k ≤ 9 ∧ q < 128 ^ k ∧ getGo k q (l.drop k) = getL l

set_option maxRecDepth 100000 in
theorem and127_nat : ∀ n : Nat, n < 256 → bits BinOp.and IntKind.u8 (n : Int) 127 = ((n % 128 : Nat) : Int) := by decide
theorem or64_nat (a b : Nat) (ha : a < 18446744073709551616) (hb : b < 18446744073709551616) : bits .or .u64 (a : Int) (b : Int) = ((a ||| b : Nat) : Int) := by
  have hx : a ||| b < 2 ^ 64 := Nat.or_lt_two_pow (by omega) (by omega)
  show IntKind.u64.wrap ((BitVec.ofInt 64 (a : Int) ||| BitVec.ofInt 64 (b : Int)).toNat : Int) = _
  rw [BitVec.toNat_or, BitVec.ofInt_natCast, BitVec.ofInt_natCast, BitVec.toNat_ofNat, BitVec.toNat_ofNat, Nat.mod_eq_of_lt (by omega), Nat.mod_eq_of_lt (by omega), IntKind.wrap_u64]
  omega
theorem and64_one (a : Nat) (ha : a < 18446744073709551616) : bits .and .u64 (a : Int) 1 = ((a % 2 : Nat) : Int) := by
  show IntKind.u64.wrap ((BitVec.ofInt 64 (a : Int) &&& BitVec.ofInt 64 ((1 : Nat) : Int)).toNat : Int) = _
  rw [BitVec.toNat_and, BitVec.ofInt_natCast, BitVec.ofInt_natCast, BitVec.toNat_ofNat, BitVec.toNat_ofNat, Nat.mod_eq_of_lt (by omega), Nat.mod_eq_of_lt (by omega), Nat.and_one_is_mod, IntKind.wrap_u64]
  omega
theorem get_or (q k x : Nat) (hk : k ≤ 9) (hq : q < 128 ^ k) (hx : x < 256) (h9 : k = 9 → x ≤ 1) :
    bits .or .u64 (q : Int) (IntKind.u64.wrap (IntKind.u64.wrap (bits .and .u8 (x : Int) 127) * 2 ^ (7 * k))) = ((q + x % 128 * 2 ^ (7 * k) : Nat) : Int) ∧ q + x % 128 * 2 ^ (7 * k) < 18446744073709551616 ∧ (127 < x → q + x % 128 * 2 ^ (7 * k) < 128 ^ (k + 1)) := by
  have hp : 2 ^ (7 * k) = 128 ^ k := two_pow7 k
  have hpk : (128 : Nat) ^ k ≤ 128 ^ 9 := Nat.pow_le_pow_right (by omega) hk
  have e9 : (128 : Nat) ^ 9 = 9223372036854775808 := by decide
  have hlt : x % 128 * 128 ^ k < 18446744073709551616 := by
    by_cases h : k = 9
    · have := h9 h
      subst h
      have : x % 128 * 128 ^ 9 ≤ 1 * 128 ^ 9 := Nat.mul_le_mul_right _ (by omega)
      omega
    · have hpk : (128 : Nat) ^ k ≤ 128 ^ 8 := Nat.pow_le_pow_right (by omega) (by omega)
      have e8 : (128 : Nat) ^ 8 = 72057594037927936 := by decide
      have : x % 128 * 128 ^ k ≤ 127 * 128 ^ k := Nat.mul_le_mul_right _ (by omega)
      omega
  have hor : q ||| x % 128 * 128 ^ k = q + x % 128 * 128 ^ k := by
    rw [← hp] at hq ⊢
    rw [Nat.or_comm, Nat.mul_comm, ← Nat.two_pow_add_eq_or_of_lt hq, Nat.add_comm]
  have hsum : x % 128 * 128 ^ k + 128 ^ k ≤ 128 * 128 ^ k := by
    rw [← Nat.succ_mul]; exact Nat.mul_le_mul_right _ (by omega)
  have hlt2 : q + x % 128 * 128 ^ k < 18446744073709551616 := by
    by_cases h : k = 9
    · have := h9 h
      subst h
      have : x % 128 * 128 ^ 9 ≤ 1 * 128 ^ 9 := Nat.mul_le_mul_right _ (by omega)
      omega
    · have hpk : (128 : Nat) ^ k ≤ 128 ^ 8 := Nat.pow_le_pow_right (by omega) (by omega)
      have e8 : (128 : Nat) ^ 8 = 72057594037927936 := by decide
      omega
  refine ⟨?_, by rw [hp]; exact hlt2, fun _ => by rw [hp, pow128]; omega⟩
  rw [and127_nat x hx, hp]
  have ew : IntKind.u64.wrap (IntKind.u64.wrap ((x % 128 : Nat) : Int) * 2 ^ (7 * k)) = ((x % 128 * 128 ^ k : Nat) : Int) := by
    rw [IntWalk.u64_in ((x % 128 : Nat) : Int) (by omega)]
    have e2 : ((x % 128 : Nat) : Int) * 2 ^ (7 * k) = ((x % 128 * 128 ^ k : Nat) : Int) := by
      rw [← hp]; simp
    rw [e2]
    exact IntWalk.u64_in _ (by omega)
  rw [ew, or64_nat _ _ (by omega) hlt, hor]

theorem not_i64 (n : Nat) (h : n < 9223372036854775808) : bits BinOp.xor IntKind.i64 (-1) (n : Int) = -(n : Int) - 1 := by
  have e : BitVec.ofInt 64 (-1) = BitVec.allOnes 64 := by decide
  show IntKind.i64.wrap ((BitVec.ofInt 64 (-1) ^^^ BitVec.ofInt 64 (n : Int)).toNat : Int) = _
  rw [e, BitVec.xor_comm, BitVec.xor_allOnes, BitVec.toNat_not, BitVec.ofInt_natCast, BitVec.toNat_ofNat, Nat.mod_eq_of_lt (by omega), IntKind.wrap_i64]
  omega
theorem zag_odd {Q : Nat} (hp : Q % 2 = 1) (hlt : Q < 18446744073709551616) : bits BinOp.xor IntKind.i64 (-1) ((Q : Int) / 2) = zag Q := by
  have := not_i64 (Q / 2) (by omega)
  have e : ((Q / 2 : Nat) : Int) = (Q : Int) / 2 := by omega
  rw [e] at this
  rw [this, zag, if_pos hp, e]
theorem zag_even {Q : Nat} (hp : Q % 2 = 0) : (Q : Int) / 2 = zag Q := by
  rw [zag, if_neg (by omega)]; omega

theorem drop_cons {α : Type} {l : List α} {k : Nat} (h : k < l.length) : l.drop k = l[k] :: l.drop (k + 1) := List.drop_eq_getElem_cons h

set_option maxHeartbeats 1000000 in
theorem get_any (A : Option Addr) (n c : Nat) (l : List UInt8) (w : World) (hr : Rb w A n c l) :
    Calls Try.prog 47 #[.slice A n c] w fun e w' => e = .returned (.tuple #[.int .i64 (getL l).1, .int .i64 (getL l).2.1, .int .i64 (getL l).2.2]) ∧ w = w' := by
  have hn := hr.len
  have hmx := hr.max
  unfold maxLen at hmx
  subst hn
  go_enter Try.func47, Try.ntmps47
  go_wp2_with fail
  go_loop [5, 11] (fun u i => GetRel l u i) (fun _ i => l.length - (intOf i).toNat)
  case atStart => exact ⟨0, 0, rfl, rfl, Nat.zero_le _, by omega, by simp, rfl⟩
  case round =>
    obtain ⟨k, q, rfl, rfl, hk, hk9, hq, hg⟩ := hrel
    by_cases hlt : k < l.length
    · rw [drop_cons hlt] at hg
      obtain ⟨b, o, rfl, hc⟩ := hr.at_ hlt
      have hb := (l[k]).toNat_lt
      clear hr
      generalize l[k] = x at *
      by_cases h9 : k = 9 ∧ 1 < x.toNat
      · obtain ⟨rfl, h91⟩ := h9
        rw [getGo, if_pos ⟨rfl, h91⟩] at hg
        have Hg := Lib.hid hg
        clear hg
        go_wp2_with fail
        go_ret3
        exact ⟨by rw [← Hg.out]; rfl, rfl⟩
      · rw [getGo, if_neg h9] at hg
        obtain ⟨hor, hlt2, hlt3⟩ := get_or q k x.toNat hk9 hq hb (by omega)
        obtain ⟨Q, hQ⟩ : ∃ Q, Q = q + x.toNat % 128 * 2 ^ (7 * k) := ⟨_, rfl⟩
        rw [← hQ] at hg hor hlt2 hlt3
        have HQ := Lib.hid hQ
        clear hQ
        have hodd := and64_one Q hlt2
        by_cases h1 : 127 < x.toNat
        · rw [if_pos h1] at hg
          have Hg := Lib.hid hg
          have hne : ((k : Int) == 9) = false := by simp; omega
          clear hg hodd
          go_wp2_with fail
          go_round
          case rel => exact ⟨k + 1, Q, by go_num, rfl, by omega, by omega, hlt3 h1, Hg.out⟩
          case measure => simp [intOf]; omega
        · rw [if_neg h1] at hg
          by_cases h2 : 0 < k ∧ x.toNat = 0
          · rw [if_pos h2] at hg
            have Hg := Lib.hid hg
            obtain ⟨h3, h4⟩ := h2
            have h5 : ((x.toNat : Int) == 0) = true := by simp; omega
            clear hg hodd h9
            by_cases h6 : k = 9
            · subst h6
              have e9 : (2 : Int) ^ (7 * 9) = 9223372036854775808 := by decide
              rw [e9] at hor
              clear e9
              go_wp2_with fail
              go_ret3
              exact ⟨by rw [← Hg.out]; rfl, rfl⟩
            · have hne : ((k : Int) == 9) = false := by simp; omega
              go_wp2_with fail
              go_ret3
              exact ⟨by rw [← Hg.out]; rfl, rfl⟩
          · rw [if_neg h2] at hg
            have Hg := Lib.hid hg
            clear hg
            by_cases h6 : k = 9
            · subst h6
              have e9 : (2 : Int) ^ (7 * 9) = 9223372036854775808 := by decide
              rw [e9] at hor
              have h5 : ((x.toNat : Int) == 0) = false := by simp; omega
              have hx1 : x.toNat ≤ 1 := by omega
              clear e9 h9 h2
              by_cases hp : Q % 2 = 1
              · rw [hp] at hodd
                have hz := zag_odd hp hlt2
                clear hp
                go_wp2_with fail
                go_ret3
                exact ⟨by rw [← Hg.out]; rfl, rfl⟩
              · have hp0 : Q % 2 = 0 := by omega
                have Hp := Lib.hid hp0
                rw [hp0] at hodd
                clear hp hp0
                go_wp2_with fail
                go_ret3
                exact ⟨by rw [← Hg.out, zag_even Hp.out]; rfl, rfl⟩
            · have hne : ((k : Int) == 9) = false := by simp; omega
              have h5 : 0 < k → ((x.toNat : Int) == 0) = false := by intro hk; simp; omega
              have e1 : ((k + 1 : Nat) : Int) = (k : Int) + 1 := by omega
              have He := Lib.hid e1
              clear h9 h2 e1
              by_cases hp : Q % 2 = 1
              · rw [hp] at hodd
                have hz := zag_odd hp hlt2
                clear hp
                by_cases h7 : 0 < k
                · have h5 := h5 h7
                  go_wp2_with fail
                  go_ret3
                  exact ⟨by rw [← Hg.out, He.out]; rfl, rfl⟩
                · go_wp2_with fail
                  go_ret3
                  exact ⟨by rw [← Hg.out, He.out]; rfl, rfl⟩
              · have hp0 : Q % 2 = 0 := by omega
                have Hp := Lib.hid hp0
                rw [hp0] at hodd
                clear hp hp0
                by_cases h7 : 0 < k
                · have h5 := h5 h7
                  go_wp2_with fail
                  go_ret3
                  exact ⟨by rw [← Hg.out, zag_even Hp.out, He.out]; rfl, rfl⟩
                · go_wp2_with fail
                  go_ret3
                  exact ⟨by rw [← Hg.out, zag_even Hp.out, He.out]; rfl, rfl⟩
    · rw [List.drop_eq_nil_of_le (by omega), getGo] at hg
      have Hg := Lib.hid hg
      clear hg
      go_wp2_with fail
      go_ret3
      exact ⟨by rw [← Hg.out]; rfl, rfl⟩
end Go.Proofs.Ytehelhennbcboaa
