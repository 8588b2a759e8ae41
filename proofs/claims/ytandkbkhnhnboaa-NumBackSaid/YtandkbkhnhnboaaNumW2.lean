/- The walks of package num and its reference, second part. -/
import Derived.Test.YtandkbkhnhnboaaNumW
namespace Go.Proofs.Ytandkbkhnhnboaa
open Go.RowKit

set_option maxHeartbeats 400000 in
theorem short_any (A : Option Addr) (n c k : Nat) (w : World) (hn : n ≤ c ∧ c ≤ maxLen) :
    Calls Try.prog 10 #[.slice A n c, .int .i64 (k : Nat)] w fun e w' => e = .returned (.slice A (min n k) c) ∧ w = w' := by
  unfold maxLen at hn
  by_cases h : k < n
  · have hm : min n k = k := by omega
    have Hm := Lib.hid hm
    clear hm
    go_enter Try.func10, Try.ntmps10
    go_wp2_with fail
    go_ret
    exact ⟨by rw [Hm.out]; rfl, rfl⟩
  · have hm : min n k = n := by omega
    have Hm := Lib.hid hm
    clear hm
    go_enter Try.func10, Try.ntmps10
    go_wp2_with fail
    go_ret
    exact ⟨by rw [Hm.out]; rfl, rfl⟩

theorem bs_extract (l : List UInt8) (k : Nat) : (bs l).extract 0 k = bs (l.take k) := by
  have h : ((bs l).extract 0 k).data.toList = l.take k := by rw [ByteArray.data_extract]; simp [bs]
  rw [← bs_of ((bs l).extract 0 k), h]

set_option maxHeartbeats 400000 in
theorem cut_any (l : List UInt8) (k : Nat) (w : World) (hl : l.length ≤ maxLen) :
    Calls Try.prog 11 #[.string (bs l), .int .i64 (k : Nat)] w fun e w' => e = .returned (.string (bs (l.take k))) ∧ w = w' := by
  unfold maxLen at hl
  have hs := bs_size l
  have _hl := hl
  by_cases h : k < l.length
  · have he := bs_extract l k
    go_enter Try.func11, Try.ntmps11
    go_wp2_with fail
    go_ret
    exact ⟨rfl, rfl⟩
  · have hm : l.take k = l := List.take_of_length_le (by omega)
    have Hm := Lib.hid hm
    clear hm
    go_enter Try.func11, Try.ntmps11
    go_wp2_with fail
    go_ret
    exact ⟨by rw [Hm.out]; rfl, rfl⟩

theorem four_cells (n : Nat) (h : n < 4294967296) : bcs (fourL n) = [.int .u8 (↑n / 16777216), .int .u8 (↑n / 65536 % 256), .int .u8 (↑n / 256 % 256), .int .u8 (↑n % 256)] := by
  simp only [bcs, fourL, List.map_cons, List.map_nil]
  rw [toNat_ofNat8 (by omega), toNat_ofNat8 (by omega), toNat_ofNat8 (by omega), toNat_ofNat8 (by omega)]
  simp

set_option maxHeartbeats 400000 in
theorem four_any (n : Nat) (w : World) (h : n < 4294967296) :
    Calls Try.prog 18 #[.int .u32 (n : Nat)] w (Made w 5 1 (bcs (fourL n))) := by
  go_enter Try.func18, Try.ntmps18
  go_wp2_with fail
  go_ret
  refine ⟨_, _, _, rfl, ?_, Ext.alloc _ _⟩
  rw [four_cells n h]
  exact Own.made w _ _ 1 _ 4 (Nat.le_refl _) (by decide) rfl
set_option maxHeartbeats 400000 in
theorem rfour_any (n : Nat) (w : World) (h : n < 4294967296) :
    Calls Try.prog 19 #[.int .u32 (n : Nat)] w (Made w 5 1 (bcs (fourL n))) := by
  go_enter Try.func19, Try.ntmps19
  go_wp2_with fail
  go_ret
  refine ⟨_, _, _, rfl, ?_, Ext.alloc _ _⟩
  rw [four_cells n h]
  exact Own.made w _ _ 1 _ 4 (Nat.le_refl _) (by decide) rfl

set_option maxHeartbeats 400000 in
theorem text_any (A : Option Addr) (n c : Nat) (l : List UInt8) (w : World) (hr : Rb w A n c l) :
    Calls Try.prog 17 #[.slice A n c] w fun e w' => e = .returned (.tuple #[.string (bs (textL l).1), .int .i64 (textL l).2.1, .int .i64 (textL l).2.2]) ∧ w = w' := by
  have hn := hr.len
  have hmx := hr.max
  unfold maxLen at hmx
  subst hn
  have hget := get_any _ _ _ _ _ hr
  have ht : textL l = textL l := rfl
  have hbd := @get_bd l
  conv at ht => rhs; unfold textL
  obtain ⟨x, k, er, hgl⟩ : ∃ x k er, getL l = (x, k, er) := ⟨_, _, _, rfl⟩
  simp only [hgl] at hget ht hbd
  clear hgl
  by_cases he : er = 0
  · subst he
    obtain ⟨hk0, hk1⟩ := hbd rfl
    simp only [ne_eq, not_true_eq_false, if_false] at ht
    clear hbd
    by_cases h1 : x < 0 ∨ 65536 < x
    · rw [if_pos h1] at ht
      have Ht := Lib.hid ht
      have Hg := Lib.hid hget
      clear ht hget
      rcases h1 with h1 | h1
      all_goals
        go_enter Try.func17, Try.ntmps17
        go_wp2_with fail
        refine Hg.out.mono ?_
        rintro e w' ⟨rfl, rfl⟩
        go_wp2_with fail
        go_ret3
        exact ⟨by rw [Ht.out]; rfl, rfl⟩
    · rw [if_neg h1] at ht
      obtain ⟨m, rfl⟩ := Int.eq_ofNat_of_zero_le (show 0 ≤ x by omega)
      by_cases h2 : ((l.length - k : Nat) : Int) < m
      · rw [if_pos h2] at ht
        have Ht := Lib.hid ht
        have Hg := Lib.hid hget
        clear ht hget
        go_enter Try.func17, Try.ntmps17
        go_wp2_with fail
        refine Hg.out.mono ?_
        rintro e w' ⟨rfl, rfl⟩
        go_wp2_with fail
        go_ret3
        exact ⟨by rw [Ht.out]; rfl, rfl⟩
      · rw [if_neg h2] at ht
        have Ht := Lib.hid ht
        have Hg := Lib.hid hget
        have hle : k + m ≤ l.length := by omega
        have hle2 : m ≤ 65536 := by omega
        have hcv := run_string_of (P := Try.prog) w 22 9 5 Try.underlying22 Try.underlying5 Try.underlying9 _ _ _ _ ((hr.drop hk1).take (k := m) (by omega))
        clear ht hget hr
        go_enter Try.func17, Try.ntmps17
        go_wp2_with fail
        refine Hg.out.mono ?_
        rintro e w' ⟨rfl, rfl⟩
        go_wp2_with fail
        all_goals
          go_ret3
          exact ⟨by rw [Ht.out]; simp, rfl⟩
  · rw [if_pos (by simpa using he)] at ht
    have hne : (er != 0) = true := by simpa using he
    have Ht := Lib.hid ht
    have Hg := Lib.hid hget
    clear ht hget he hbd
    go_enter Try.func17, Try.ntmps17
    go_wp2_with fail
    refine Hg.out.mono ?_
    rintro e w' ⟨rfl, rfl⟩
    go_wp2_with fail
    go_ret3
    exact ⟨by rw [Ht.out]; rfl, rfl⟩
end Go.Proofs.Ytandkbkhnhnboaa
