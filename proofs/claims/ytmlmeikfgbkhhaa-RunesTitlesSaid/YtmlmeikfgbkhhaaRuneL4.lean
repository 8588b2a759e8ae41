/- The walk of the law RunesTitles. -/
import Derived.Test.YtmlmeikfgbkhhaaRuneL3
namespace Go.Proofs.Ytmlmeikfgbkhhaa
open Go.RowKit

/-- A rune's bytes. -/
def enc (c : Nat) : List UInt8 :=
  if c < 128 then [UInt8.ofNat c]
  else if c < 2048 then [UInt8.ofNat (192 + c / 64), UInt8.ofNat (128 + c % 64)]
  else if c < 65536 then [UInt8.ofNat (224 + c / 4096), UInt8.ofNat (128 + c / 64 % 64), UInt8.ofNat (128 + c % 64)]
  else [UInt8.ofNat (240 + c / 262144), UInt8.ofNat (128 + c / 4096 % 64), UInt8.ofNat (128 + c / 64 % 64), UInt8.ofNat (128 + c % 64)]
theorem encode_bs {x : Int} {c : Nat} (hx : x = c) (h1 : ¬ (55296 ≤ c ∧ c < 57344)) (h2 : c ≤ 1114111) : Utf8.encode x = bs (enc c) := by
  subst hx
  have hv : Utf8.valid (c : Int) = true := by
    rw [Utf8.valid]
    simp only [Bool.or_eq_true, Bool.and_eq_true, decide_eq_true_eq]
    omega
  unfold Utf8.encode enc
  rw [hv]
  simp only [if_true, Int.toNat_natCast]
  by_cases k1 : c < 128
  · rw [if_pos k1, if_pos k1]; rfl
  rw [if_neg k1, if_neg k1]
  by_cases k2 : c < 2048
  · rw [if_pos k2, if_pos k2]; rfl
  rw [if_neg k2, if_neg k2]
  by_cases k3 : c < 65536
  · rw [if_pos k3, if_pos k3]; rfl
  rw [if_neg k3, if_neg k3]; rfl
theorem u8n {k : Nat} (h : k < 256) : (UInt8.ofNat k).toNat = k := by simp [Nat.mod_eq_of_lt h]
theorem dec_enc {c : Nat} (h1 : ¬ (55296 ≤ c ∧ c < 57344)) (h2 : c ≤ 1114111) (t : List UInt8) : dec (enc c ++ t) = (c, (enc c).length) ∧ ((enc c).length = 3 ∨ c ≠ 65533) ∧ 1 ≤ (enc c).length ∧ (enc c).length ≤ 4 := by
  unfold enc
  by_cases k1 : c < 128
  · rw [if_pos k1]
    have b0 : bt ([UInt8.ofNat c] ++ t) 0 = c := u8n (by omega)
    exact ⟨by rw [dec_low (by omega), b0]; rfl, .inr (by omega), by simp, by simp⟩
  rw [if_neg k1]
  by_cases k2 : c < 2048
  · rw [if_pos k2]
    generalize hm : [UInt8.ofNat (192 + c / 64), UInt8.ofNat (128 + c % 64)] = m
    have b0 : bt (m ++ t) 0 = 192 + c / 64 := by subst hm; exact u8n (by omega)
    have b1 : bt (m ++ t) 1 = 128 + c % 64 := by subst hm; exact u8n (by omega)
    have hl : m.length = 2 := by subst hm; rfl
    have hc : c2 (m ++ t) = c := by unfold c2; rw [b0, b1]; omega
    rw [dec_c2 (by rw [b0]; omega), if_pos ⟨⟨by rw [List.length_append]; omega, by rw [b1]; omega⟩, by omega⟩, hc, hl]
    exact ⟨rfl, .inr (by omega), by decide, by decide⟩
  rw [if_neg k2]
  by_cases k3 : c < 65536
  · rw [if_pos k3]
    generalize hm : [UInt8.ofNat (224 + c / 4096), UInt8.ofNat (128 + c / 64 % 64), UInt8.ofNat (128 + c % 64)] = m
    have b0 : bt (m ++ t) 0 = 224 + c / 4096 := by subst hm; exact u8n (by omega)
    have b1 : bt (m ++ t) 1 = 128 + c / 64 % 64 := by subst hm; exact u8n (by omega)
    have b2 : bt (m ++ t) 2 = 128 + c % 64 := by subst hm; exact u8n (by omega)
    have hl : m.length = 3 := by subst hm; rfl
    have hc : c3 (m ++ t) = c := by unfold c3; rw [b0, b1, b2]; omega
    rw [dec_c3 (by rw [b0]; omega), if_pos ⟨⟨by rw [List.length_append]; omega, by rw [b1]; omega⟩, ⟨by rw [List.length_append]; omega, by rw [b2]; omega⟩, by omega, by omega⟩, hc, hl]
    exact ⟨rfl, .inl rfl, by decide, by decide⟩
  · rw [if_neg k3]
    generalize hm : [UInt8.ofNat (240 + c / 262144), UInt8.ofNat (128 + c / 4096 % 64), UInt8.ofNat (128 + c / 64 % 64), UInt8.ofNat (128 + c % 64)] = m
    have b0 : bt (m ++ t) 0 = 240 + c / 262144 := by subst hm; exact u8n (by omega)
    have b1 : bt (m ++ t) 1 = 128 + c / 4096 % 64 := by subst hm; exact u8n (by omega)
    have b2 : bt (m ++ t) 2 = 128 + c / 64 % 64 := by subst hm; exact u8n (by omega)
    have b3 : bt (m ++ t) 3 = 128 + c % 64 := by subst hm; exact u8n (by omega)
    have hl : m.length = 4 := by subst hm; rfl
    have hc : c4 (m ++ t) = c := by unfold c4; rw [b0, b1, b2, b3]; omega
    rw [dec_c4 (by rw [b0]; omega), if_pos ⟨⟨by rw [List.length_append]; omega, by rw [b1]; omega⟩, ⟨by rw [List.length_append]; omega, by rw [b2]; omega⟩, ⟨by rw [List.length_append]; omega, by rw [b3]; omega⟩, by omega, by omega⟩, hc, hl]
    exact ⟨rfl, .inr (by omega), by decide, by decide⟩

def repE (c : Nat) : Nat → List UInt8
  | 0 => []
  | n + 1 => repE c n ++ enc c
theorem rs_enc {c : Nat} (h1 : ¬ (55296 ≤ c ∧ c < 57344)) (h2 : c ≤ 1114111) : rs (enc c) = [(c, (enc c).length)] := by
  have h := dec_enc h1 h2 []
  rw [List.append_nil] at h
  have hne : enc c ≠ [] := by intro e; rw [e] at h; simp at h
  rw [rs_cons hne, h.1]
  simp [rs_nil]
theorem good_enc {c : Nat} (h1 : ¬ (55296 ≤ c ∧ c < 57344)) (h2 : c ≤ 1114111) : goodL (enc c) = true := by
  have h := (dec_enc h1 h2 []).2.1
  unfold goodL
  rw [rs_enc h1 h2]
  rcases h with h | h <;> simp [wellR, h]
theorem rep_rs {c : Nat} (h1 : ¬ (55296 ≤ c ∧ c < 57344)) (h2 : c ≤ 1114111) : ∀ n, goodL (repE c n) = true ∧ rs (repE c n) = List.replicate n (c, (enc c).length) ∧ (repE c n).length ≤ 4 * n
  | 0 => ⟨rfl, rfl, by simp [repE]⟩
  | n + 1 => by
    have ih := rep_rs h1 h2 n
    have h := dec_enc h1 h2 []
    refine ⟨good_app ih.1 (good_enc h1 h2), ?_, ?_⟩
    · rw [repE, rs_app _ _ _ (Nat.le_refl _) ih.1, ih.2.1, rs_enc h1 h2, List.replicate_succ']
    · rw [repE, List.length_append]; omega
theorem rep_title {c : Nat} (h0 : 32 ≤ c) (h127 : c ≠ 127) (h1 : ¬ (55296 ≤ c ∧ c < 57344)) (h2 : c ≤ 1114111) (n : Nat) : titleL (repE c n) = (decide (1 ≤ n) && decide (n ≤ 20)) ∧ titleL (repE c n ++ [10]) = false := by
  have h := rep_rs h1 h2 n
  constructor
  · unfold titleL
    rw [h.1, h.2.1, List.length_replicate, Bool.and_true]
    have : (List.replicate n (c, (enc c).length)).all plainR = true := by
      rw [List.all_eq_true]
      intro x hx
      rw [List.eq_of_mem_replicate hx]
      simp [plainR, h127]; omega
    rw [this, Bool.true_and]
  · unfold titleL
    rw [rs_app _ _ _ (Nat.le_refl _) h.1, List.all_append]
    have : (rs [10]).all plainR = false := by decide
    rw [this]; simp
def TtRel (c n : Nat) (s i : Value) : Prop := ∃ j : Nat, i = .int .i64 (j : Nat) ∧ j ≤ n ∧ s = .string (bs (repE c j)) ∧ (repE c j).length ≤ 4 * j

set_option maxRecDepth 100000 in
set_option maxHeartbeats 4000000 in
theorem titles_walk (w : World) (n : Int) (_n0 : -9223372036854775808 ≤ n) (_n1 : n ≤ 9223372036854775807) (r : Int) (_r0 : -2147483648 ≤ r) (_r1 : r ≤ 2147483647) :
    Calls Try.prog 8 #[.int .i64 n, .int .i32 r] w (Yes w) := by
  clear _n0 _n1 _r0 _r1
  by_cases h : n < 0 ∨ 25 < n ∨ r < 32 ∨ r = 127 ∨ 1114111 < r ∨ 55296 ≤ r ∧ r < 57344
  · have hcase : n < 0 ∨ 0 ≤ n ∧ 25 < n ∨ 0 ≤ n ∧ n ≤ 25 ∧ r < 32 ∨ 0 ≤ n ∧ n ≤ 25 ∧ r = 127 ∨ 0 ≤ n ∧ n ≤ 25 ∧ 1114111 < r ∨ 0 ≤ n ∧ n ≤ 25 ∧ 55296 ≤ r ∧ r < 57344 := by omega
    clear h
    rcases hcase with h | ⟨h, h'⟩ | ⟨h, h', h2⟩ | ⟨h, h', rfl⟩ | ⟨h, h', h2⟩ | ⟨h, h', h2, h3⟩
    all_goals
      try (have b127 : (r == 127) = false := by rw [beq_eq_false_iff_ne]; omega)
      go_enter Try.func8, Try.ntmps8
      go_wp2_with fail
      refine (begun_any w).mono ?_
      rintro e w1 ⟨rfl, e1⟩
      go_wp2_with fail
      go_ret
      exact ⟨rfl, e1⟩
  obtain ⟨N, rfl⟩ := Int.eq_ofNat_of_zero_le (show 0 ≤ n by omega)
  obtain ⟨c, hc⟩ := Int.eq_ofNat_of_zero_le (show 0 ≤ r by omega)
  have hN : N ≤ 25 := by omega
  have hs : ¬ (55296 ≤ c ∧ c < 57344) := by omega
  have henc := encode_bs (x := r) (c := c) hc hs (by omega)
  have hrep := rep_rs (c := c) hs (by omega)
  have htit := rep_title (c := c) (by omega) (by omega) hs (by omega) N
  have hel := (dec_enc (c := c) hs (by omega) []).2.2
  have Hrep := Lib.hid hrep
  have Htit := Lib.hid htit
  have b127 : (r == 127) = false := by rw [beq_eq_false_iff_ne]; omega
  have b1 : 32 ≤ r := by omega
  have b2 : ((1114111 : Int) < r) = False := eq_false (by omega)
  have hcase : ((55296 : Int) ≤ r) = False ∨ ((55296 : Int) ≤ r) = True ∧ (r < 57344) = False := by
    by_cases hh : 55296 ≤ r
    · exact .inr ⟨eq_true hh, eq_false (by omega)⟩
    · exact .inl (eq_false hh)
  clear hc hs hrep htit h
  rcases hcase with hcase | ⟨hcase, hcase2⟩
  all_goals
    go_enter Try.func8, Try.ntmps8
    go_wp2_with fail
    refine (begun_any w).mono ?_
    rintro e w1 ⟨rfl, e1⟩
    go_wp2_with fail
    go_loop [6, 7] (fun s i => TtRel c N s i) (fun _ i => N - (intOf i).toNat)
    case atStart => exact ⟨0, rfl, Nat.zero_le _, rfl, Nat.zero_le _⟩
    case round =>
      obtain ⟨j, rfl, hj, rfl, hlen⟩ := hrel
      by_cases hlt : j < N
      · have hcat : ((9223372036854775807 : Nat) < (repE c j).length + (enc c).length) = False := eq_false (by omega)
        go_wp2_with fail
        go_round
        case rel => exact ⟨j + 1, by go_num, hlt, rfl, by rw [repE, List.length_append]; omega⟩
        case measure => simp [intOf]; omega
      · obtain rfl : j = N := by omega
        have hcat : ((9223372036854775807 : Nat) < (repE c j).length + 1) = False := eq_false (by omega)
        have hr := Hrep.out j
        have ht := Htit.out
        have hcn : ((rs (repE c j)).length : Int) = j := by rw [hr.2.1, List.length_replicate]
        have Hr := Lib.hid ht.1
        have Hr2 := Lib.hid ht.2
        have Hcn := Lib.hid hcn
        have hl1 : (repE c j).length ≤ 1099511627776 := by omega
        have hl2 : (repE c j ++ [10]).length ≤ 1099511627776 := by rw [List.length_append]; simp; omega
        clear hr ht hcn Hrep Htit
        have hways : j < 1 ∧ (decide (1 ≤ j) && decide (j ≤ 20)) = false ∨ 20 < j ∧ (decide (1 ≤ j) && decide (j ≤ 20)) = false ∨ (1 ≤ j ∧ j ≤ 20) ∧ (decide (1 ≤ j) && decide (j ≤ 20)) = true := by
          by_cases q1 : j < 1
          · exact .inl ⟨q1, by simp; omega⟩
          · by_cases q2 : 20 < j
            · exact .inr (.inl ⟨q2, by simp; omega⟩)
            · exact .inr (.inr ⟨by omega, by simp; omega⟩)
        rcases hways with ⟨q1, q2⟩ | ⟨q1, q2⟩ | ⟨q1, q2⟩
        all_goals
          rw [q2] at Hr
          clear q2
          go_wp2_with fail
          refine (title_is _ _ hl1 Hr.out).mono ?_
          rintro e w2 ⟨rfl, e2⟩
          go_wp2_with fail
          refine (count_is _ _ hl1 Hcn.out).mono ?_
          rintro e w3 ⟨rfl, e3⟩
          go_wp2_with fail
          refine (title_is _ (repE c j ++ [10]) hl2 Hr2.out).mono ?_
          rintro e w4 ⟨rfl, e4⟩
          go_wp2_with fail
          go_ret
          exact ⟨by first | rfl | (have q3 : decide ((j : Int) ≤ 20) = false := decide_eq_false (by omega); simp [q3]), ((e1.trans e2).trans e3).trans e4⟩
end Go.Proofs.Ytmlmeikfgbkhhaa
