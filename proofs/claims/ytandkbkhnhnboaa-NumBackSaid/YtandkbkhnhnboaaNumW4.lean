/- The walks of the reference's readers of numbers and texts. -/
import Derived.Test.YtandkbkhnhnboaaNumW3
namespace Go.Proofs.Ytandkbkhnhnboaa
open Go.RowKit

/-- What holds at the head of the reference's loop over bytes. -/
def RGetRel (l : List UInt8) (u wt i : Value) : Prop := ∃ k q W : Nat, i = .int .i64 k ∧ u = .int .u64 q ∧ wt = .int .u64 W ∧ W = 128 ^ k ∧ k ≤ l.length ∧ k ≤ 9 ∧ q < 128 ^ k ∧ getGo k q (l.drop k) = getL l

set_option maxRecDepth 100000 in
set_option maxHeartbeats 1000000 in
theorem rget_any (A : Option Addr) (n c : Nat) (l : List UInt8) (w : World) (hr : Rb w A n c l) :
    Calls Try.prog 20 #[.slice A n c] w fun e w' => e = .returned (.tuple #[.int .i64 (getL l).1, .int .i64 (getL l).2.1, .int .i64 (getL l).2.2]) ∧ w = w' := by
  have hn := hr.len
  have hmx := hr.max
  unfold maxLen at hmx
  subst hn
  go_enter Try.func20, Try.ntmps20
  go_wp2_with fail
  go_loop [5, 6, 7] (fun u wt i => RGetRel l u wt i) (fun _ _ i => l.length - (intOf i).toNat)
  case atStart => exact ⟨0, 0, 1, rfl, rfl, rfl, rfl, Nat.zero_le _, by omega, by simp, rfl⟩
  case round =>
    obtain ⟨k, q, W, rfl, rfl, rfl, hW, hk, hk9, hq, hg⟩ := hrel
    by_cases hlt : k < l.length
    · rw [drop_cons hlt] at hg
      obtain ⟨b, o, rfl, hc⟩ := hr.at_ hlt
      have hb := (l[k]).toNat_lt
      have hkI : (k : Int) < (l.length : Int) := by omega
      clear hr
      generalize l[k] = x at *
      by_cases h9 : k = 9 ∧ 1 < x.toNat
      · obtain ⟨rfl, h91⟩ := h9
        rw [getGo, if_pos ⟨rfl, h91⟩] at hg
        have Hg := Lib.hid hg
        clear hg hW
        go_wp2_with fail
        go_ret3
        exact ⟨by rw [← Hg.out]; rfl, rfl⟩
      · rw [getGo, if_neg h9] at hg
        obtain ⟨_, hlt2, hlt3⟩ := get_or q k x.toNat hk9 hq hb (by omega)
        obtain ⟨P, hP⟩ : ∃ P, P = x.toNat % 128 * 2 ^ (7 * k) := ⟨_, rfl⟩
        rw [← hP] at hg hlt2 hlt3
        have hPW : (x.toNat : Int) % 128 * (W : Int) = (P : Int) := by
          rw [hP, two_pow7, ← hW, Int.natCast_mul]; rfl
        have HW := Lib.hid hW
        clear hP hW
        have hx1 : k = 9 → x.toNat ≤ 1 := by omega
        by_cases h1 : 127 < x.toNat
        · rw [if_pos h1] at hg
          have Hg := Lib.hid hg
          have hk8 : k ≤ 8 := by omega
          have hne : ((k : Int) == 9) = false := by simp; omega
          have h5 : ((x.toNat : Int) == 0) = false := by simp; omega
          have hWb : W ≤ 72057594037927936 := by
            have := HW.out
            have e8 : (128 : Nat) ^ 8 = 72057594037927936 := by decide
            have hpk : (128 : Nat) ^ k ≤ 128 ^ 8 := Nat.pow_le_pow_right (by omega) (by omega)
            omega
          clear hg h9 hx1
          by_cases h0 : 0 < k
          all_goals
            go_wp2_with fail
            go_round
            case rel => exact ⟨k + 1, q + P, W * 128, by go_num, by simp, by simp, by rw [HW.out, pow128, Nat.mul_comm], by omega, by omega, hlt3 h1, Hg.out⟩
            case measure => simp [intOf]; omega
        · rw [if_neg h1] at hg
          by_cases h2 : 0 < k ∧ x.toNat = 0
          · rw [if_pos h2] at hg
            have Hg := Lib.hid hg
            obtain ⟨h3, h4⟩ := h2
            have h5 : ((x.toNat : Int) == 0) = true := by simp; omega
            clear hg h9 hx1
            by_cases h6 : k = 9
            · subst h6
              go_wp2_with fail
              go_ret3
              exact ⟨by rw [← Hg.out]; rfl, rfl⟩
            · have hne : ((k : Int) == 9) = false := by simp; omega
              go_wp2_with fail
              go_ret3
              exact ⟨by rw [← Hg.out]; rfl, rfl⟩
          · rw [if_neg h2] at hg
            have Hg := Lib.hid hg
            have h5 : 0 < k → ((x.toNat : Int) == 0) = false := by intro hk; simp; omega
            clear hg h9 h2
            have hz : zag (q + P) = if (q + P) % 2 = 1 then -(((q + P) / 2 : Nat) : Int) - 1 else (((q + P) / 2 : Nat) : Int) := rfl
            have Hz := Lib.hid hz
            clear hz
            by_cases hp : (q + P) % 2 = 1
            · have hodd : (((q : Int) + (P : Int)) % 2 == 1) = true := by simp; omega
              have Hp := Lib.hid hp
              clear hp
              by_cases h6 : k = 9
              · subst h6
                have hx1 := hx1 rfl
                have h5 := h5 (by omega)
                go_wp2_with fail
                go_ret3
                exact ⟨by rw [← Hg.out, Hz.out, if_pos Hp.out]; simp, rfl⟩
              · have hne : ((k : Int) == 9) = false := by simp; omega
                clear hx1
                by_cases h0 : 0 < k
                · have h5 := h5 h0
                  go_wp2_with fail
                  go_ret3
                  exact ⟨by rw [← Hg.out, Hz.out, if_pos Hp.out]; simp, rfl⟩
                · clear h5
                  go_wp2_with fail
                  go_ret3
                  exact ⟨by rw [← Hg.out, Hz.out, if_pos Hp.out]; simp, rfl⟩
            · have hodd : (((q : Int) + (P : Int)) % 2 == 1) = false := by simp; omega
              have Hp := Lib.hid hp
              clear hp
              by_cases h6 : k = 9
              · subst h6
                have hx1 := hx1 rfl
                have h5 := h5 (by omega)
                go_wp2_with fail
                go_ret3
                exact ⟨by rw [← Hg.out, Hz.out, if_neg Hp.out]; simp, rfl⟩
              · have hne : ((k : Int) == 9) = false := by simp; omega
                clear hx1
                by_cases h0 : 0 < k
                · have h5 := h5 h0
                  go_wp2_with fail
                  go_ret3
                  exact ⟨by rw [← Hg.out, Hz.out, if_neg Hp.out]; simp, rfl⟩
                · clear h5
                  go_wp2_with fail
                  go_ret3
                  exact ⟨by rw [← Hg.out, Hz.out, if_neg Hp.out]; simp, rfl⟩
    · rw [List.drop_eq_nil_of_le (by omega), getGo] at hg
      have Hg := Lib.hid hg
      clear hg hW
      go_wp2_with fail
      go_ret3
      exact ⟨by rw [← Hg.out]; rfl, rfl⟩
set_option maxHeartbeats 400000 in
theorem rtext_any (A : Option Addr) (n c : Nat) (l : List UInt8) (w : World) (hr : Rb w A n c l) :
    Calls Try.prog 21 #[.slice A n c] w fun e w' => e = .returned (.tuple #[.string (bs (textL l).1), .int .i64 (textL l).2.1, .int .i64 (textL l).2.2]) ∧ w = w' := by
  have hn := hr.len
  have hmx := hr.max
  unfold maxLen at hmx
  subst hn
  have hget := rget_any _ _ _ _ _ hr
  have ht : textL l = textL l := rfl
  have hbd := @get_bd l
  conv at ht => rhs; unfold textL
  obtain ⟨x, k, er, hgl⟩ : ∃ x k er, getL l = (x, k, er) := ⟨_, _, _, rfl⟩
  simp only [hgl] at hget ht hbd
  clear hgl
  by_cases he : er = 0
  · subst he
    obtain ⟨hk0, hk1⟩ := hbd rfl
    simp only [ne_eq, not_true_eq_false, if_false] at ht
    clear hbd
    by_cases h1 : x < 0 ∨ 65536 < x
    · rw [if_pos h1] at ht
      have Ht := Lib.hid ht
      have Hg := Lib.hid hget
      clear ht hget
      rcases h1 with h1 | h1
      all_goals
        go_enter Try.func21, Try.ntmps21
        go_wp2_with fail
        refine Hg.out.mono ?_
        rintro e w' ⟨rfl, rfl⟩
        go_wp2_with fail
        go_ret3
        exact ⟨by rw [Ht.out]; rfl, rfl⟩
    · rw [if_neg h1] at ht
      obtain ⟨m, rfl⟩ := Int.eq_ofNat_of_zero_le (show 0 ≤ x by omega)
      by_cases h2 : ((l.length - k : Nat) : Int) < m
      · rw [if_pos h2] at ht
        have Ht := Lib.hid ht
        have Hg := Lib.hid hget
        clear ht hget
        go_enter Try.func21, Try.ntmps21
        go_wp2_with fail
        refine Hg.out.mono ?_
        rintro e w' ⟨rfl, rfl⟩
        go_wp2_with fail
        go_ret3
        exact ⟨by rw [Ht.out]; rfl, rfl⟩
      · rw [if_neg h2] at ht
        have Ht := Lib.hid ht
        have Hg := Lib.hid hget
        have hle : k + m ≤ l.length := by omega
        have hle2 : m ≤ 65536 := by omega
        have hcv := run_string_of (P := Try.prog) w 22 9 5 Try.underlying22 Try.underlying5 Try.underlying9 _ _ _ _ ((hr.drop hk1).take (k := m) (by omega))
        clear ht hget hr
        go_enter Try.func21, Try.ntmps21
        go_wp2_with fail
        refine Hg.out.mono ?_
        rintro e w' ⟨rfl, rfl⟩
        go_wp2_with fail
        all_goals
          go_ret3
          exact ⟨by rw [Ht.out]; simp, rfl⟩
  · rw [if_pos (by simpa using he)] at ht
    have hne : (er != 0) = true := by simpa using he
    have Ht := Lib.hid ht
    have Hg := Lib.hid hget
    clear ht hget he hbd
    go_enter Try.func21, Try.ntmps21
    go_wp2_with fail
    refine Hg.out.mono ?_
    rintro e w' ⟨rfl, rfl⟩
    go_wp2_with fail
    go_ret3
    exact ⟨by rw [Ht.out]; rfl, rfl⟩
end Go.Proofs.Ytandkbkhnhnboaa
