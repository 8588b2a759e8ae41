/- The walks of package num and its reference: what each function computes. -/
import Derived.Test.YtandkbkhnhnboaaRows
import Derived.Test.YtandkbkhnhnboaaNumPlain
namespace Go.Proofs.Ytandkbkhnhnboaa
open Go.RowKit

theorem info_u8 : (Try.prog.info? 5).map (fun i => (i.zero, i.size, i.bytes)) = some (some (.int .u8 0), 1, 1) := by kernel_rfl

theorem not64 (n : Nat) (h : n < 18446744073709551616) : bits BinOp.xor IntKind.u64 IntKind.u64.max (n : Int) = ((18446744073709551615 - n : Nat) : Int) := by
  have e : BitVec.ofInt 64 IntKind.u64.max = BitVec.allOnes 64 := by decide
  show IntKind.u64.wrap ((BitVec.ofInt 64 IntKind.u64.max ^^^ BitVec.ofInt 64 (n : Int)).toNat : Int) = _
  rw [e, BitVec.xor_comm, BitVec.xor_allOnes, BitVec.toNat_not, BitVec.ofInt_natCast, BitVec.toNat_ofNat, Nat.mod_eq_of_lt (by omega), IntKind.wrap_u64]
  omega
theorem zig_neg {x : Int} (h : x < 0) (h0 : -9223372036854775808 ≤ x) : bits BinOp.xor IntKind.u64 IntKind.u64.max (IntKind.u64.wrap (IntKind.u64.wrap x * 2)) = (zig x : Int) := by
  have e : IntKind.u64.wrap (IntKind.u64.wrap x * 2) = ((18446744073709551616 + 2 * x).toNat : Int) := by
    rw [IntKind.wrap_u64, IntKind.wrap_u64]; omega
  rw [e, not64 _ (by omega)]
  unfold zig; rw [if_pos h]; omega
theorem zig_pos {x : Int} (h : ¬ x < 0) : x * 2 = (zig x : Int) := by
  unfold zig; rw [if_neg h]; omega
theorem zig_ways {x : Int} (h0 : -9223372036854775808 ≤ x) : (x < 0 ∧ bits BinOp.xor IntKind.u64 IntKind.u64.max (IntKind.u64.wrap (IntKind.u64.wrap x * 2)) = (zig x : Int)) ∨ (¬ x < 0 ∧ x * 2 = (zig x : Int)) := by
  by_cases h : x < 0
  · exact .inl ⟨h, zig_neg h h0⟩
  · exact .inr ⟨h, zig_pos h⟩
set_option maxRecDepth 100000 in
theorem or128_nat : ∀ n : Nat, n < 256 → bits BinOp.or IntKind.u8 (n : Int) 128 = ((n % 128 + 128 : Nat) : Int) := by decide
theorem or128 (u : Nat) : bits BinOp.or IntKind.u8 (↑u % 256) 128 = (↑u % 128 + 128 : Int) := by
  have := or128_nat (u % 256) (by omega)
  have e : ((u % 256 : Nat) : Int) = ↑u % 256 := by omega
  rw [e] at this
  rw [this]; omega
theorem pow128_10 : (128 : Nat) ^ (9 + 1) = 1180591620717411303424 := by decide

/-- What holds at the head of Put's loop. -/
def PutRel (w : World) (base : Nat) (A : Option Addr) (l : List UInt8) (x : Int) (v u : Value) (wr : World) : Prop :=
  ∃ B m d pre q k, v = .slice B m d ∧ u = .int .u64 (q : Nat) ∧ Own wr base 5 1 B m d (bcs (l ++ pre)) ∧ w.grownBy wr (blk A) ∧ Went w A B ∧ pre ++ putF (k + 1) q = putL x ∧ q < 128 ^ (k + 1) ∧ pre.length + (k + 1) = 10 ∧ q < 18446744073709551616

theorem cell_byte {n : Nat} (h : n < 256) : bcs [UInt8.ofNat n] = [.int .u8 (n : Int)] := by
  simp only [bcs, List.map_cons, List.map_nil]
  rw [toNat_ofNat8 h]

theorem put_again {w : World} {base : Nat} {A : Option Addr} {l : List UInt8} {x : Int} {wr w' : World} {B C : Option Addr} {m' d' : Nat} {pre : List UInt8} {q k : Nat} (hq : 127 < q)
    (hg : w.grownBy wr (blk A)) (hw : Went w A B) (hp : pre ++ putF (k + 1) q = putL x) (hlt : q < 128 ^ (k + 1)) (hk : pre.length + (k + 1) = 10) (hq64 : q < 18446744073709551616)
    (ho : Own w' base 5 1 C m' d' (bcs (l ++ pre) ++ [.int .u8 (↑q % 128 + 128)])) (hg' : wr.grownBy w' (blk B)) (hw' : blk C = blk B ∨ ∀ k, blk C = some k → wr.heap.size ≤ k) :
    PutRel w base A l x (.slice C m' d') (.int .u64 (↑q / 128)) w' := by
  have hk0 : k ≠ 0 := by rintro rfl; simp at hlt; omega
  obtain ⟨k, rfl⟩ : ∃ j, k = j + 1 := ⟨k - 1, by omega⟩
  refine ⟨C, m', d', pre ++ [UInt8.ofNat (q % 128 + 128)], q / 128, k, rfl, by simp, ?_, grown_went hg hw hg', hw.trans hg.size hw', ?_, ?_, by simp; omega, by omega⟩
  · have e := cell_byte (n := q % 128 + 128) (by omega)
    rw [← List.append_assoc, bcs_append, e]
    exact ho
  · rw [List.append_assoc, ← hp]
    conv => rhs; rw [putF, if_pos hq]
    rfl
  · rw [pow128] at hlt
    omega

theorem put_end {w : World} {base : Nat} {A : Option Addr} {l : List UInt8} {x : Int} {wr w' : World} {B C : Option Addr} {m' d' : Nat} {pre : List UInt8} {q k : Nat} (hq : q ≤ 127)
    (hg : w.grownBy wr (blk A)) (hw : Went w A B) (hp : pre ++ putF (k + 1) q = putL x)
    (ho : Own w' base 5 1 C m' d' (bcs (l ++ pre) ++ [.int .u8 ↑q])) (hg' : wr.grownBy w' (blk B)) (hw' : blk C = blk B ∨ ∀ k, blk C = some k → wr.heap.size ≤ k) :
    Appended w base 5 1 A (bcs (l ++ putL x)) (.returned (.slice C m' d')) w' := by
  refine ⟨C, m', d', rfl, ?_, grown_went hg hw hg', hw.trans hg.size hw'⟩
  have e := cell_byte (n := q) (by omega)
  rw [← hp, putF, if_neg (by omega), ← List.append_assoc, bcs_append, e]
  exact ho

set_option maxHeartbeats 400000 in
theorem put_any (base : Nat) (A : Option Addr) (n c : Nat) (l : List UInt8) (x : Int) (w : World) (h0 : -9223372036854775808 ≤ x) (h1 : x ≤ 9223372036854775807)
    (hown : Own w base 5 1 A n c (bcs l)) (hn : n ≤ 1099511627776) (hb : base ≤ w.heap.size) :
    Calls Try.prog 12 #[.slice A n c, .int .i64 x] w (Appended w base 5 1 A (bcs (l ++ putL x))) := by
  obtain ⟨i, hi, hz0, hz1, hz2⟩ := info_parts info_u8
  have hzl := zig_lt h0 h1
  have hln : l.length ≤ n := by have := hown.len; simp [bcs_length] at this; omega
  rcases zig_ways h0 with ⟨hx, hz⟩ | ⟨hx, hz⟩
  all_goals
    go_enter Try.func12, Try.ntmps12
    go_wp2_with fail
    clear hz
    go_loopw [0, 5] (fun v u wr => PutRel w base A l x v u wr) (fun _ u _ => (intOf u).toNat)
    case atStart => exact ⟨A, n, c, [], zig x, 9, rfl, rfl, by simpa using hown, World.grownBy.refl w _, Went.refl w A, rfl, by rw [pow128_10]; omega, rfl, hzl⟩
    case round =>
      obtain ⟨B, m, d, pre, q, k, rfl, rfl, ho, hg, hw, hp, hq, hk, hq64⟩ := hrel
      have hm : m ≤ n + 10 := by have := ho.len; simp [bcs_length] at this; omega
      have hbw : base ≤ wr.heap.size := Nat.le_trans hb hg.size
      have hor := or128 q
      have Hp := Lib.hid hp
      have Hk := Lib.hid hk
      clear hp hk
      go_wp2_with (at_builtin; refine wpList_append_new _ rfl _ _ 22 rfl base 5 i (.int .u8 0) 1 1 Try.underlying22 hi hz0 hz1 hz2 rfl (by decide) B m d _ rfl ho 1 _ rfl rfl (by simp [Value.oneCell']) (by unfold maxLen; omega) (by omega) hbw ?_; intro B' d' w' ho' hg' hw')
      · go_roundw
        case rel => exact put_again (by omega) hg hw Hp.out hq Hk.out hq64 ho' hg' hw'
        case measure => simp [intOf]; omega
      · go_ret
        exact put_end (by omega) hg hw Hp.out ho' hg' hw'

/-- What holds at the head of Get's loop. -/
def GetRel (l : List UInt8) (u i : Value) : Prop := ∃ k q : Nat, i = .int .i64 k ∧ u = .int .u64 q ∧ k ≤ l.length ∧ k ≤ 9 ∧ q < 128 ^ k ∧ getGo k q (l.drop k) = getL l

set_option maxRecDepth 100000 in
theorem and127_nat : ∀ n : Nat, n < 256 → bits BinOp.and IntKind.u8 (n : Int) 127 = ((n % 128 : Nat) : Int) := by decide
theorem or64_nat (a b : Nat) (ha : a < 18446744073709551616) (hb : b < 18446744073709551616) : bits .or .u64 (a : Int) (b : Int) = ((a ||| b : Nat) : Int) := by
  have hx : a ||| b < 2 ^ 64 := Nat.or_lt_two_pow (by omega) (by omega)
  show IntKind.u64.wrap ((BitVec.ofInt 64 (a : Int) ||| BitVec.ofInt 64 (b : Int)).toNat : Int) = _
  rw [BitVec.toNat_or, BitVec.ofInt_natCast, BitVec.ofInt_natCast, BitVec.toNat_ofNat, BitVec.toNat_ofNat, Nat.mod_eq_of_lt (by omega), Nat.mod_eq_of_lt (by omega), IntKind.wrap_u64]
  omega
theorem and64_one (a : Nat) (ha : a < 18446744073709551616) : bits .and .u64 (a : Int) 1 = ((a % 2 : Nat) : Int) := by
  show IntKind.u64.wrap ((BitVec.ofInt 64 (a : Int) &&& BitVec.ofInt 64 ((1 : Nat) : Int)).toNat : Int) = _
  rw [BitVec.toNat_and, BitVec.ofInt_natCast, BitVec.ofInt_natCast, BitVec.toNat_ofNat, BitVec.toNat_ofNat, Nat.mod_eq_of_lt (by omega), Nat.mod_eq_of_lt (by omega), Nat.and_one_is_mod, IntKind.wrap_u64]
  omega
theorem get_or (q k x : Nat) (hk : k ≤ 9) (hq : q < 128 ^ k) (hx : x < 256) (h9 : k = 9 → x ≤ 1) :
    bits .or .u64 (q : Int) (IntKind.u64.wrap (IntKind.u64.wrap (bits .and .u8 (x : Int) 127) * 2 ^ (7 * k))) = ((q + x % 128 * 2 ^ (7 * k) : Nat) : Int) ∧ q + x % 128 * 2 ^ (7 * k) < 18446744073709551616 ∧ (127 < x → q + x % 128 * 2 ^ (7 * k) < 128 ^ (k + 1)) := by
  have hp : 2 ^ (7 * k) = 128 ^ k := two_pow7 k
  have hpk : (128 : Nat) ^ k ≤ 128 ^ 9 := Nat.pow_le_pow_right (by omega) hk
  have e9 : (128 : Nat) ^ 9 = 9223372036854775808 := by decide
  have hlt : x % 128 * 128 ^ k < 18446744073709551616 := by
    by_cases h : k = 9
    · have := h9 h
      subst h
      have : x % 128 * 128 ^ 9 ≤ 1 * 128 ^ 9 := Nat.mul_le_mul_right _ (by omega)
      omega
    · have hpk : (128 : Nat) ^ k ≤ 128 ^ 8 := Nat.pow_le_pow_right (by omega) (by omega)
      have e8 : (128 : Nat) ^ 8 = 72057594037927936 := by decide
      have : x % 128 * 128 ^ k ≤ 127 * 128 ^ k := Nat.mul_le_mul_right _ (by omega)
      omega
  have hor : q ||| x % 128 * 128 ^ k = q + x % 128 * 128 ^ k := by
    rw [← hp] at hq ⊢
    rw [Nat.or_comm, Nat.mul_comm, ← Nat.two_pow_add_eq_or_of_lt hq, Nat.add_comm]
  have hsum : x % 128 * 128 ^ k + 128 ^ k ≤ 128 * 128 ^ k := by
    rw [← Nat.succ_mul]; exact Nat.mul_le_mul_right _ (by omega)
  have hlt2 : q + x % 128 * 128 ^ k < 18446744073709551616 := by
    by_cases h : k = 9
    · have := h9 h
      subst h
      have : x % 128 * 128 ^ 9 ≤ 1 * 128 ^ 9 := Nat.mul_le_mul_right _ (by omega)
      omega
    · have hpk : (128 : Nat) ^ k ≤ 128 ^ 8 := Nat.pow_le_pow_right (by omega) (by omega)
      have e8 : (128 : Nat) ^ 8 = 72057594037927936 := by decide
      omega
  refine ⟨?_, by rw [hp]; exact hlt2, fun _ => by rw [hp, pow128]; omega⟩
  rw [and127_nat x hx, hp]
  have ew : IntKind.u64.wrap (IntKind.u64.wrap ((x % 128 : Nat) : Int) * 2 ^ (7 * k)) = ((x % 128 * 128 ^ k : Nat) : Int) := by
    rw [IntWalk.u64_in ((x % 128 : Nat) : Int) (by omega)]
    have e2 : ((x % 128 : Nat) : Int) * 2 ^ (7 * k) = ((x % 128 * 128 ^ k : Nat) : Int) := by
      rw [← hp]; simp
    rw [e2]
    exact IntWalk.u64_in _ (by omega)
  rw [ew, or64_nat _ _ (by omega) hlt, hor]

theorem not_i64 (n : Nat) (h : n < 9223372036854775808) : bits BinOp.xor IntKind.i64 (-1) (n : Int) = -(n : Int) - 1 := by
  have e : BitVec.ofInt 64 (-1) = BitVec.allOnes 64 := by decide
  show IntKind.i64.wrap ((BitVec.ofInt 64 (-1) ^^^ BitVec.ofInt 64 (n : Int)).toNat : Int) = _
  rw [e, BitVec.xor_comm, BitVec.xor_allOnes, BitVec.toNat_not, BitVec.ofInt_natCast, BitVec.toNat_ofNat, Nat.mod_eq_of_lt (by omega), IntKind.wrap_i64]
  omega
theorem zag_odd {Q : Nat} (hp : Q % 2 = 1) (hlt : Q < 18446744073709551616) : bits BinOp.xor IntKind.i64 (-1) ((Q : Int) / 2) = zag Q := by
  have := not_i64 (Q / 2) (by omega)
  have e : ((Q / 2 : Nat) : Int) = (Q : Int) / 2 := by omega
  rw [e] at this
  rw [this, zag, if_pos hp, e]
theorem zag_even {Q : Nat} (hp : Q % 2 = 0) : (Q : Int) / 2 = zag Q := by
  rw [zag, if_neg (by omega)]; omega

theorem drop_cons {α : Type} {l : List α} {k : Nat} (h : k < l.length) : l.drop k = l[k] :: l.drop (k + 1) := List.drop_eq_getElem_cons h

set_option maxHeartbeats 1000000 in
theorem get_any (A : Option Addr) (n c : Nat) (l : List UInt8) (w : World) (hr : Rb w A n c l) :
    Calls Try.prog 14 #[.slice A n c] w fun e w' => e = .returned (.tuple #[.int .i64 (getL l).1, .int .i64 (getL l).2.1, .int .i64 (getL l).2.2]) ∧ w = w' := by
  have hn := hr.len
  have hmx := hr.max
  unfold maxLen at hmx
  subst hn
  go_enter Try.func14, Try.ntmps14
  go_wp2_with fail
  go_loop [5, 11] (fun u i => GetRel l u i) (fun _ i => l.length - (intOf i).toNat)
  case atStart => exact ⟨0, 0, rfl, rfl, Nat.zero_le _, by omega, by simp, rfl⟩
  case round =>
    obtain ⟨k, q, rfl, rfl, hk, hk9, hq, hg⟩ := hrel
    by_cases hlt : k < l.length
    · rw [drop_cons hlt] at hg
      obtain ⟨b, o, rfl, hc⟩ := hr.at_ hlt
      have hb := (l[k]).toNat_lt
      clear hr
      generalize l[k] = x at *
      by_cases h9 : k = 9 ∧ 1 < x.toNat
      · obtain ⟨rfl, h91⟩ := h9
        rw [getGo, if_pos ⟨rfl, h91⟩] at hg
        have Hg := Lib.hid hg
        clear hg
        go_wp2_with fail
        go_ret3
        exact ⟨by rw [← Hg.out]; rfl, rfl⟩
      · rw [getGo, if_neg h9] at hg
        obtain ⟨hor, hlt2, hlt3⟩ := get_or q k x.toNat hk9 hq hb (by omega)
        obtain ⟨Q, hQ⟩ : ∃ Q, Q = q + x.toNat % 128 * 2 ^ (7 * k) := ⟨_, rfl⟩
        rw [← hQ] at hg hor hlt2 hlt3
        have HQ := Lib.hid hQ
        clear hQ
        have hodd := and64_one Q hlt2
        by_cases h1 : 127 < x.toNat
        · rw [if_pos h1] at hg
          have Hg := Lib.hid hg
          have hne : ((k : Int) == 9) = false := by simp; omega
          clear hg hodd
          go_wp2_with fail
          go_round
          case rel => exact ⟨k + 1, Q, by go_num, rfl, by omega, by omega, hlt3 h1, Hg.out⟩
          case measure => simp [intOf]; omega
        · rw [if_neg h1] at hg
          by_cases h2 : 0 < k ∧ x.toNat = 0
          · rw [if_pos h2] at hg
            have Hg := Lib.hid hg
            obtain ⟨h3, h4⟩ := h2
            have h5 : ((x.toNat : Int) == 0) = true := by simp; omega
            clear hg hodd h9
            by_cases h6 : k = 9
            · subst h6
              have e9 : (2 : Int) ^ (7 * 9) = 9223372036854775808 := by decide
              rw [e9] at hor
              clear e9
              go_wp2_with fail
              go_ret3
              exact ⟨by rw [← Hg.out]; rfl, rfl⟩
            · have hne : ((k : Int) == 9) = false := by simp; omega
              go_wp2_with fail
              go_ret3
              exact ⟨by rw [← Hg.out]; rfl, rfl⟩
          · rw [if_neg h2] at hg
            have Hg := Lib.hid hg
            clear hg
            by_cases h6 : k = 9
            · subst h6
              have e9 : (2 : Int) ^ (7 * 9) = 9223372036854775808 := by decide
              rw [e9] at hor
              have h5 : ((x.toNat : Int) == 0) = false := by simp; omega
              have hx1 : x.toNat ≤ 1 := by omega
              clear e9 h9 h2
              by_cases hp : Q % 2 = 1
              · rw [hp] at hodd
                have hz := zag_odd hp hlt2
                clear hp
                go_wp2_with fail
                go_ret3
                exact ⟨by rw [← Hg.out]; rfl, rfl⟩
              · have hp0 : Q % 2 = 0 := by omega
                have Hp := Lib.hid hp0
                rw [hp0] at hodd
                clear hp hp0
                go_wp2_with fail
                go_ret3
                exact ⟨by rw [← Hg.out, zag_even Hp.out]; rfl, rfl⟩
            · have hne : ((k : Int) == 9) = false := by simp; omega
              have h5 : 0 < k → ((x.toNat : Int) == 0) = false := by intro hk; simp; omega
              have e1 : ((k + 1 : Nat) : Int) = (k : Int) + 1 := by omega
              have He := Lib.hid e1
              clear h9 h2 e1
              by_cases hp : Q % 2 = 1
              · rw [hp] at hodd
                have hz := zag_odd hp hlt2
                clear hp
                by_cases h7 : 0 < k
                · have h5 := h5 h7
                  go_wp2_with fail
                  go_ret3
                  exact ⟨by rw [← Hg.out, He.out]; rfl, rfl⟩
                · go_wp2_with fail
                  go_ret3
                  exact ⟨by rw [← Hg.out, He.out]; rfl, rfl⟩
              · have hp0 : Q % 2 = 0 := by omega
                have Hp := Lib.hid hp0
                rw [hp0] at hodd
                clear hp hp0
                by_cases h7 : 0 < k
                · have h5 := h5 h7
                  go_wp2_with fail
                  go_ret3
                  exact ⟨by rw [← Hg.out, zag_even Hp.out, He.out]; rfl, rfl⟩
                · go_wp2_with fail
                  go_ret3
                  exact ⟨by rw [← Hg.out, zag_even Hp.out, He.out]; rfl, rfl⟩
    · rw [List.drop_eq_nil_of_le (by omega), getGo] at hg
      have Hg := Lib.hid hg
      clear hg
      go_wp2_with fail
      go_ret3
      exact ⟨by rw [← Hg.out]; rfl, rfl⟩
end Go.Proofs.Ytandkbkhnhnboaa
