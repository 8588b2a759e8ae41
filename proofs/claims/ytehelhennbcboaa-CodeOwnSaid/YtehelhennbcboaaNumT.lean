/- The walk of num.Text. -/
import Derived.Test.YtehelhennbcboaaNumG
namespace Go.Proofs.Ytehelhennbcboaa
open Go.RowKit

set_option maxHeartbeats 400000 in
theorem text_any (A : Option Addr) (n c : Nat) (l : List UInt8) (w : World) (hr : Rb w A n c l) :
    Calls Try.prog 36 #[.slice A n c] w fun e w' => e = .returned (.tuple #[.string (bs (textL l).1), .int .i64 (textL l).2.1, .int .i64 (textL l).2.2]) ∧ w = w' := by
  have hn := hr.len
  have hmx := hr.max
  unfold maxLen at hmx
  subst hn
  have hget := get_any _ _ _ _ _ hr
  have ht : textL l = textL l := rfl
  have hbd := @get_bd l
  conv at ht => rhs; unfold textL
  obtain ⟨x, k, er, hgl⟩ : ∃ x k er, getL l = (x, k, er) := ⟨_, _, _, rfl⟩
  simp only [hgl] at hget ht hbd
  clear hgl
  by_cases he : er = 0
  · subst he
    obtain ⟨hk0, hk1⟩ := hbd rfl
    simp only [ne_eq, not_true_eq_false, if_false] at ht
    clear hbd
    by_cases h1 : x < 0 ∨ 65536 < x
    · rw [if_pos h1] at ht
      have Ht := Lib.hid ht
      have Hg := Lib.hid hget
      clear ht hget
      rcases h1 with h1 | h1
      all_goals
        go_enter Try.func36, Try.ntmps36
        go_wp2_with fail
        refine Hg.out.mono ?_
        rintro e w' ⟨rfl, rfl⟩
        go_wp2_with fail
        go_ret3
        exact ⟨by rw [Ht.out]; rfl, rfl⟩
    · rw [if_neg h1] at ht
      obtain ⟨m, rfl⟩ := Int.eq_ofNat_of_zero_le (show 0 ≤ x by omega)
      by_cases h2 : ((l.length - k : Nat) : Int) < m
      · rw [if_pos h2] at ht
        have Ht := Lib.hid ht
        have Hg := Lib.hid hget
        clear ht hget
        go_enter Try.func36, Try.ntmps36
        go_wp2_with fail
        refine Hg.out.mono ?_
        rintro e w' ⟨rfl, rfl⟩
        go_wp2_with fail
        go_ret3
        exact ⟨by rw [Ht.out]; rfl, rfl⟩
      · rw [if_neg h2] at ht
        have Ht := Lib.hid ht
        have Hg := Lib.hid hget
        have hle : k + m ≤ l.length := by omega
        have hle2 : m ≤ 65536 := by omega
        have hcv := run_string_of (P := Try.prog) w 36 9 5 Try.underlying36 Try.underlying5 Try.underlying9 _ _ _ _ ((hr.drop hk1).take (k := m) (by omega))
        clear ht hget hr
        go_enter Try.func36, Try.ntmps36
        go_wp2_with fail
        refine Hg.out.mono ?_
        rintro e w' ⟨rfl, rfl⟩
        go_wp2_with fail
        all_goals
          go_ret3
          exact ⟨by rw [Ht.out]; simp, rfl⟩
  · rw [if_pos (by simpa using he)] at ht
    have hne : (er != 0) = true := by simpa using he
    have Ht := Lib.hid ht
    have Hg := Lib.hid hget
    clear ht hget he hbd
    go_enter Try.func36, Try.ntmps36
    go_wp2_with fail
    refine Hg.out.mono ?_
    rintro e w' ⟨rfl, rfl⟩
    go_wp2_with fail
    go_ret3
    exact ⟨by rw [Ht.out]; rfl, rfl⟩
end Go.Proofs.Ytehelhennbcboaa
