/- The walks of package num and its reference: what each function computes. -/
import Derived.Test.YtbmgiidecidojaaDoorRows
import Derived.Test.YtbmgiidecidojaaDoorNumPlain
namespace Go.Proofs.YtbmgiidecidojaaDoor
open Go.RowKit

theorem info_u8 : (Tryd.prog.info? 5).map (fun i => (i.zero, i.size, i.bytes)) = some (some (.int .u8 0), 1, 1) := by kernel_rfl

theorem not64 (n : Nat) (h : n < 18446744073709551616) : bits BinOp.xor IntKind.u64 IntKind.u64.max (n : Int) = ((18446744073709551615 - n : Nat) : Int) := by
  have e : BitVec.ofInt 64 IntKind.u64.max = BitVec.allOnes 64 := by decide
  show IntKind.u64.wrap ((BitVec.ofInt 64 IntKind.u64.max ^^^ BitVec.ofInt 64 (n : Int)).toNat : Int) = _
  rw [e, BitVec.xor_comm, BitVec.xor_allOnes, BitVec.toNat_not, BitVec.ofInt_natCast, BitVec.toNat_ofNat, Nat.mod_eq_of_lt (by omega), IntKind.wrap_u64]
  omega
theorem zig_neg {x : Int} (h : x < 0) (h0 : -9223372036854775808 ≤ x) : bits BinOp.xor IntKind.u64 IntKind.u64.max (IntKind.u64.wrap (IntKind.u64.wrap x * 2)) = (zig x : Int) := by
  have e : IntKind.u64.wrap (IntKind.u64.wrap x * 2) = ((18446744073709551616 + 2 * x).toNat : Int) := by
    rw [IntKind.wrap_u64, IntKind.wrap_u64]; omega
  rw [e, not64 _ (by omega)]
  unfold zig; rw [if_pos h]; omega
theorem zig_pos {x : Int} (h : ¬ x < 0) : x * 2 = (zig x : Int) := by
  unfold zig; rw [if_neg h]; omega
theorem zig_ways {x : Int} (h0 : -9223372036854775808 ≤ x) : (x < 0 ∧ bits BinOp.xor IntKind.u64 IntKind.u64.max (IntKind.u64.wrap (IntKind.u64.wrap x * 2)) = (zig x : Int)) ∨ (¬ x < 0 ∧ x * 2 = (zig x : Int)) := by
  by_cases h : x < 0
  · exact .inl ⟨h, zig_neg h h0⟩
  · exact .inr ⟨h, zig_pos h⟩
set_option maxRecDepth 100000 in
theorem or128_nat : ∀ n : Nat, n < 256 → bits BinOp.or IntKind.u8 (n : Int) 128 = ((n % 128 + 128 : Nat) : Int) := by decide
theorem or128 (u : Nat) : bits BinOp.or IntKind.u8 (↑u % 256) 128 = (↑u % 128 + 128 : Int) := by
  have := or128_nat (u % 256) (by omega)
  have e : ((u % 256 : Nat) : Int) = ↑u % 256 := by omega
  rw [e] at this
  rw [this]; omega
theorem pow128_10 : (128 : Nat) ^ (9 + 1) = 1180591620717411303424 := by decide

/-- What holds at the head of Put's loop. -/
def PutRel (w : World) (base : Nat) (A : Option Addr) (l : List UInt8) (x : Int) (v u : Value) (wr : World) : Prop :=
  ∃ B m d pre q k, v = .slice B m d ∧ u = .int .u64 (q : Nat) ∧ Own wr base 5 1 B m d (bcs (l ++ pre)) ∧ w.grownBy wr (blk A) ∧ Went w A B ∧ pre ++ putF (k + 1) q = putL x ∧ q < 128 ^ (k + 1) ∧ pre.length + (k + 1) = 10 ∧ q < 18446744073709551616

theorem cell_byte {n : Nat} (h : n < 256) : bcs [UInt8.ofNat n] = [.int .u8 (n : Int)] := by
  simp only [bcs, List.map_cons, List.map_nil]
  rw [toNat_ofNat8 h]

theorem put_again {w : World} {base : Nat} {A : Option Addr} {l : List UInt8} {x : Int} {wr w' : World} {B C : Option Addr} {m' d' : Nat} {pre : List UInt8} {q k : Nat} (hq : 127 < q)
    (hg : w.grownBy wr (blk A)) (hw : Went w A B) (hp : pre ++ putF (k + 1) q = putL x) (hlt : q < 128 ^ (k + 1)) (hk : pre.length + (k + 1) = 10) (hq64 : q < 18446744073709551616)
    (ho : Own w' base 5 1 C m' d' (bcs (l ++ pre) ++ [.int .u8 (↑q % 128 + 128)])) (hg' : wr.grownBy w' (blk B)) (hw' : blk C = blk B ∨ ∀ k, blk C = some k → wr.heap.size ≤ k) :
    PutRel w base A l x (.slice C m' d') (.int .u64 (↑q / 128)) w' := by
  have hk0 : k ≠ 0 := by rintro rfl; simp at hlt; omega
  obtain ⟨k, rfl⟩ : ∃ j, k = j + 1 := ⟨k - 1, by omega⟩
  refine ⟨C, m', d', pre ++ [UInt8.ofNat (q % 128 + 128)], q / 128, k, rfl, by simp, ?_, grown_went hg hw hg', hw.trans hg.size hw', ?_, ?_, by simp; omega, by omega⟩
  · have e := cell_byte (n := q % 128 + 128) (by omega)
    rw [← List.append_assoc, bcs_append, e]
    exact ho
  · rw [List.append_assoc, ← hp]
    conv => rhs; rw [putF, if_pos hq]
    rfl
  · rw [pow128] at hlt
    omega

theorem put_end {w : World} {base : Nat} {A : Option Addr} {l : List UInt8} {x : Int} {wr w' : World} {B C : Option Addr} {m' d' : Nat} {pre : List UInt8} {q k : Nat} (hq : q ≤ 127)
    (hg : w.grownBy wr (blk A)) (hw : Went w A B) (hp : pre ++ putF (k + 1) q = putL x)
    (ho : Own w' base 5 1 C m' d' (bcs (l ++ pre) ++ [.int .u8 ↑q])) (hg' : wr.grownBy w' (blk B)) (hw' : blk C = blk B ∨ ∀ k, blk C = some k → wr.heap.size ≤ k) :
    Appended w base 5 1 A (bcs (l ++ putL x)) (.returned (.slice C m' d')) w' := by
  refine ⟨C, m', d', rfl, ?_, grown_went hg hw hg', hw.trans hg.size hw'⟩
  have e := cell_byte (n := q) (by omega)
  rw [← hp, putF, if_neg (by omega), ← List.append_assoc, bcs_append, e]
  exact ho

set_option maxRecDepth 100000 in
set_option maxHeartbeats 1000000 in
theorem put_any (base : Nat) (A : Option Addr) (n c : Nat) (l : List UInt8) (x : Int) (w : World) (h0 : -9223372036854775808 ≤ x) (h1 : x ≤ 9223372036854775807)
    (hown : Own w base 5 1 A n c (bcs l)) (hn : n ≤ 1099511627776) (hb : base ≤ w.heap.size) :
    Calls Tryd.prog 43 #[.slice A n c, .int .i64 x] w (Appended w base 5 1 A (bcs (l ++ putL x))) := by
  obtain ⟨i, hi, hz0, hz1, hz2⟩ := info_parts info_u8
  have hzl := zig_lt h0 h1
  have hln : l.length ≤ n := by have := hown.len; simp [bcs_length] at this; omega
  rcases zig_ways h0 with ⟨hx, hz⟩ | ⟨hx, hz⟩
  all_goals
    go_enter Tryd.func43, Tryd.ntmps43
    go_wp2_with fail
    clear hz
    go_loopw [0, 5] (fun v u wr => PutRel w base A l x v u wr) (fun _ u _ => (intOf u).toNat)
    case atStart => exact ⟨A, n, c, [], zig x, 9, rfl, rfl, by simpa using hown, World.grownBy.refl w _, Went.refl w A, rfl, by rw [pow128_10]; omega, rfl, hzl⟩
    case round =>
      obtain ⟨B, m, d, pre, q, k, rfl, rfl, ho, hg, hw, hp, hq, hk, hq64⟩ := hrel
      have hm : m ≤ n + 10 := by have := ho.len; simp [bcs_length] at this; omega
      have hbw : base ≤ wr.heap.size := Nat.le_trans hb hg.size
      have hor := or128 q
      have Hp := Lib.hid hp
      have Hk := Lib.hid hk
      clear hp hk
      go_wp2_with (at_builtin; refine wpList_append_new _ rfl _ _ 51 rfl base 5 i (.int .u8 0) 1 1 Tryd.underlying51 hi hz0 hz1 hz2 rfl (by decide) B m d _ rfl ho 1 _ rfl rfl (by simp [Value.oneCell']) (by unfold maxLen; omega) (by omega) hbw ?_; intro B' d' w' ho' hg' hw')
      · go_roundw
        case rel => exact put_again (by omega) hg hw Hp.out hq Hk.out hq64 ho' hg' hw'
        case measure => simp [intOf]; omega
      · go_ret
        exact put_end (by omega) hg hw Hp.out ho' hg' hw'
end Go.Proofs.YtbmgiidecidojaaDoor
