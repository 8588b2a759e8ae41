/- The walks of package num and its reference, third part. -/
import Derived.Test.YtehelhennbcboaaNumU
namespace Go.Proofs.Ytehelhennbcboaa
open Go.RowKit

set_option maxHeartbeats 400000 in
theorem bytes_any (base : Nat) (A : Option Addr) (n c : Nat) (l s : List UInt8) (w : World) (hs : s.length ≤ 1099511627776)
    (hown : Own w base 5 1 A n c (bcs l)) (hn : n ≤ 1099511627776) (hb : base ≤ w.heap.size) :
    Calls Try.prog 33 #[.slice A n c, .string (bs s)] w (Appended w base 5 1 A (bcs (l ++ bytesL s))) := by
  obtain ⟨i, hi, hz0, hz1, hz2⟩ := info_parts info_u8
  have hsz := bs_size s
  go_enter Try.func33, Try.ntmps33
  go_wp2_with fail
  refine (put_any base A n c l s.length w (by omega) (by omega) hown hn hb).mono ?_
  rintro e w1 ⟨B, m, d, rfl, ho, hg, hw⟩
  have hm : m ≤ n + 10 := by
    have h1 := ho.len
    have h2 := hown.len
    have := putL_le (s.length : Int)
    simp [bcs_length] at h1 h2
    omega
  have hb1 : base ≤ w1.heap.size := Nat.le_trans hb hg.size
  clear hsz
  go_wp2_with (at_builtin; refine wpList_append_text _ rfl _ _ 36 9 rfl base 5 i Try.underlying36 Try.underlying9 hi hz0 hz1 hz2 B m d _ rfl ho s rfl (by unfold maxLen; omega) (by omega) hb1 ?_; intro B' d' w' ho' hg' hw')
  go_ret
  refine ⟨_, _, _, rfl, ?_, grown_went hg hw hg', hw.trans hg.size hw'⟩
  rw [bytesL, ← List.append_assoc, bcs_append]
  exact ho'


set_option maxHeartbeats 400000 in
set_option maxRecDepth 20000 in
theorem rput_any (x : Int) (w : World) (h0 : -9223372036854775808 ≤ x) (h1 : x ≤ 9223372036854775807) :
    Calls Try.prog 35 #[.int .i64 x] w (Appended w w.heap.size 5 1 none (bcs (putL x))) := by
  obtain ⟨i, hi, hz0, hz1, hz2⟩ := info_parts info_u8
  have hzl := zig_lt h0 h1
  rcases zig_ways h0 with ⟨hx, hz⟩ | ⟨hx, hz⟩
  all_goals
    go_enter Try.func35, Try.ntmps35
    go_wp2_with fail
    clear hz
    go_loopw [4, 3] (fun v u wr => PutRel w w.heap.size none [] x v u wr) (fun _ u _ => (intOf u).toNat)
    case atStart => exact ⟨none, 0, 0, [], zig x, 9, rfl, rfl, Own.nil_ _ _ _ _, World.grownBy.refl w _, Went.refl w _, rfl, by rw [pow128_10]; omega, rfl, hzl⟩
    case round =>
      obtain ⟨B, m, d, pre, q, k, rfl, rfl, ho, hg, hw, hp, hq, hk, hq64⟩ := hrel
      have hm : m ≤ 10 := by have := ho.len; simp [bcs_length] at this; omega
      have hbw : w.heap.size ≤ wr.heap.size := hg.size
      have Hp := Lib.hid hp
      have Hk := Lib.hid hk
      clear hp hk
      go_wp2_with (at_builtin; refine wpList_append_new _ rfl _ _ 36 rfl w.heap.size 5 i (.int .u8 0) 1 1 Try.underlying36 hi hz0 hz1 hz2 rfl (by decide) B m d _ rfl ho 1 _ rfl rfl (by simp [Value.oneCell']) (by unfold maxLen; omega) (by omega) hbw ?_; intro B' d' w' ho' hg' hw')
      · go_roundw
        case rel => exact put_again (by omega) hg hw Hp.out hq Hk.out hq64 ho' hg' hw'
        case measure => simp [intOf]; omega
      · go_ret
        exact put_end (l := []) (by omega) hg hw Hp.out ho' hg' hw'

set_option maxHeartbeats 400000 in
theorem ptext_any (s : List UInt8) (w : World) (hs : s.length ≤ 1099511627776) :
    Calls Try.prog 34 #[.string (bs s)] w (Appended w w.heap.size 5 1 none (bcs (bytesL s))) := by
  obtain ⟨i, hi, hz0, hz1, hz2⟩ := info_parts info_u8
  have hsz := bs_size s
  go_enter Try.func34, Try.ntmps34
  go_wp2_with fail
  refine (rput_any s.length w (by omega) (by omega)).mono ?_
  rintro e w1 ⟨B, m, d, rfl, ho, hg, hw⟩
  have hm : m ≤ 10 := by
    have h1 := ho.len
    have := putL_le (s.length : Int)
    simp [bcs_length] at h1
    omega
  have hb1 : w.heap.size ≤ w1.heap.size := hg.size
  clear hsz
  go_wp2_with (at_builtin; refine wpList_append_text _ rfl _ _ 36 9 rfl w.heap.size 5 i Try.underlying36 Try.underlying9 hi hz0 hz1 hz2 B m d _ rfl ho s rfl (by unfold maxLen; omega) (by omega) hb1 ?_; intro B' d' w' ho' hg' hw')
  go_ret
  refine ⟨_, _, _, rfl, ?_, grown_went hg hw hg', hw.trans hg.size hw'⟩
  rw [bytesL, bcs_append]
  exact ho'

end Go.Proofs.Ytehelhennbcboaa
