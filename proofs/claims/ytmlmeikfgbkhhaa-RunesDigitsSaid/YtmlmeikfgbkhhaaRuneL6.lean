/- The walks of the laws RunesNumber, RunesJoin, RunesDigits. -/
import Derived.Test.YtmlmeikfgbkhhaaRuneM
import Derived.Test.YtmlmeikfgbkhhaaRuneL2
namespace Go.Proofs.Ytmlmeikfgbkhhaa
open Go.RowKit

set_option maxRecDepth 100000 in
set_option maxHeartbeats 4000000 in
theorem number_walk (w : World) (s : List UInt8) (_hs : s.length ≤ maxLen) (x : Int) (x0 : -2147483648 ≤ x) (x1 : x ≤ 2147483647) :
    Calls Try.prog 5 #[.string (bs s), .int .i32 x] w (Yes w) := by
  have hcut := fun W => cut_any W s 30
  have Hcut := Lib.hid hcut
  have hl : (s.take 30).length ≤ 1099511627776 := by rw [List.length_take]; omega
  clear hcut
  have Hdec := Lib.hid (numL_dec x0 x1)
  have hdl : (decL x).length ≤ 1099511627776 := Nat.le_trans (decL_len (n := x) (by omega) (by omega)) (by decide)
  go_enter Try.func5, Try.ntmps5
  go_wp2_with fail
  refine (begun_any w).mono ?_
  rintro e w1 ⟨rfl, e1⟩
  go_wp2_with fail
  refine (Hcut.out _).mono ?_
  rintro e w2 ⟨rfl, rfl⟩
  clear Hcut
  generalize s.take 30 = l at *
  go_wp2_with fail
  rcases ho : numL l with _ | v
  all_goals
    have Ho := Lib.hid ho
    clear ho
    refine (number_is w1 l hl Ho.out).mono ?_
    rintro e w3 ⟨rfl, e3⟩
    have e4 := e1.trans e3
    clear e3
    go_wp2_with fail
    refine (rnumber_any w3 l hl).mono ?_
    rintro e w5 ⟨m, rfl, hm, m0, m1, rfl⟩
    rw [Ho.out] at hm ⊢
    first | (obtain rfl := hm _ rfl) | skip
    clear hm
    go_wp2_with fail
    refine (decimal_any w3 x (by omega) (by omega)).mono ?_
    rintro e w6 ⟨rfl, e6⟩
    have e7 := e4.trans e6
    clear e6 e4
    go_wp2_with fail
    refine (number_is w6 _ hdl Hdec.out).mono ?_
    rintro e w8 ⟨rfl, e8⟩
    have e9 := e7.trans e8
    clear e8 e7
    go_wp2_with fail
    go_ret
    exact ⟨rfl, e9⟩

set_option maxRecDepth 100000 in
set_option maxHeartbeats 4000000 in
theorem join_walk (w : World) (s : List UInt8) (_hs : s.length ≤ maxLen) (s' : List UInt8) (_hs' : s'.length ≤ maxLen) :
    Calls Try.prog 7 #[.string (bs s), .string (bs s')] w (Yes w) := by
  have Hcut := Lib.hid fun W => cut_any W s 40
  have Hcut' := Lib.hid fun W => cut_any W s' 40
  have hl : (s.take 40).length ≤ 40 := by rw [List.length_take]; omega
  have hl' : (s'.take 40).length ≤ 40 := by rw [List.length_take]; omega
  go_enter Try.func7, Try.ntmps7
  go_wp2_with fail
  refine (begun_any w).mono ?_
  rintro e w1 ⟨rfl, e1⟩
  go_wp2_with fail
  refine (Hcut.out _).mono ?_
  rintro e w2 ⟨rfl, rfl⟩
  go_wp2_with fail
  refine (Hcut'.out _).mono ?_
  rintro e w2 ⟨rfl, rfl⟩
  clear Hcut Hcut'
  generalize s.take 40 = a at *
  generalize s'.take 40 = b at *
  have hc1 : ((9223372036854775807 : Nat) < a.length + 1) = False := eq_false (by omega)
  have hc2 : ((9223372036854775807 : Nat) < (a ++ [32]).length + b.length) = False := eq_false (by rw [List.length_append]; simp; omega)
  have hc3 : ((9223372036854775807 : Nat) < a.length + 1 + b.length) = False := eq_false (by omega)
  have hja : a ++ 32 :: b = a ++ [32] ++ b := by simp
  have Hj := Lib.hid (words_join a b)
  have ha := wordsL_len a
  have hb := wordsL_len b
  have hz : (a ++ [32] ++ b).length ≤ 1099511627776 := by simp; omega
  rw [hja] at Hj
  have Hja := Lib.hid hja
  clear hja
  go_wp2_with fail
  refine (words_any w1 a (by omega)).mono ?_
  rintro e w3 ⟨B, d, base, rfl, hbase, ho, e3⟩
  have e4 := e1.trans e3
  clear e1 e3
  go_wp2_with fail
  refine (words_any w3 b (by omega)).mono ?_
  rintro e w5 ⟨B2, d2, base2, rfl, hbase2, ho2, e5⟩
  have e6 := e4.trans e5
  have ho1 := ho.ext e5
  clear e4 e5 ho
  go_wp2_with fail
  refine (words_is w5 (a ++ [32] ++ b) hz Hj.out).mono ?_
  rintro e w7 ⟨B3, d3, base3, rfl, hbase3, ho3, e7⟩
  have e8 := e6.trans e7
  have ho11 := ho1.ext e7
  have ho22 := ho2.ext e7
  clear e6 e7 ho1 ho2 Hj
  generalize wordsL a = x at *
  generalize wordsL b = y at *
  have hlen : (x ++ y).length = x.length + y.length := List.length_append
  have Hlen := Lib.hid hlen
  clear hlen
  go_wp2_with fail
  go_loopw [9] (fun i w' => ∃ j : Nat, i = .int .i64 j ∧ j ≤ x.length + y.length ∧ Dr w7 w') (fun i _ => x.length + y.length - (intOf i).toNat)
  case atStart => exact ⟨0, rfl, Nat.zero_le _, Dr.refl _⟩
  case round =>
    obtain ⟨j, rfl, hj, hdr⟩ := hrel
    by_cases hlt : j < x.length + y.length
    · obtain ⟨b3, o3, hB3, hc3⟩ := word_at (ho3.ext hdr.ext) (k := j) (by rw [Hlen.out]; exact hlt)
      by_cases hx : j < x.length
      · obtain ⟨b1, o1, hB1, hc1'⟩ := word_at (ho11.ext hdr.ext) hx
        rw [List.getElem_append_left hx] at hc3
        subst hB1 hB3
        have hxi : (j : Int) < (x.length : Int) := by omega
        have hxd : decide ((j : Int) < (x.length : Int)) = true := decide_eq_true hxi
        have hxg : decide ((x.length : Int) ≤ (j : Int)) = false := decide_eq_false (by omega)
        have hxg2 : decide (x.length ≤ j) = false := decide_eq_false (by omega)
        go_wp2_with fail
        apply wp_region_lex (R := Dr) (by kernel_rfl) (by kernel_rfl) Dr.refl (fun _ _ _ => Dr.trans) (Dr.drew _)
        repeat
          first
          | (apply lex_ex Dr.refl
             · rfl
             · intro W hR hΦ
               obtain ⟨nq, rfl⟩ := hR
               go_simp
               first | done | with_reducible rfl)
          | (apply lex_skip
             · rfl)
          simp only [Act.put, List.setIfInBounds_toArray, List.set_cons_zero, List.set_cons_succ]
        refine lex_nil ?_
        intro W hR _
        go_wp2_with fail
        go_roundw
        case rel => exact ⟨j + 1, by go_num, hlt, hdr.trans hR⟩
        case measure => simp [intOf]; omega
      · obtain ⟨k, hkj⟩ : ∃ k, j = x.length + k := ⟨j - x.length, by omega⟩
        have hk : k < y.length := by omega
        obtain ⟨b2, o2, hB2, hc2'⟩ := word_at (ho22.ext hdr.ext) hk
        have hget : (x ++ y)[j]'(by rw [Hlen.out]; exact hlt) = y[k] := by
          rw [List.getElem_append_right (by omega)]; congr 1; omega
        rw [hget] at hc3
        subst hB2 hB3
        have hxi : ¬ ((j : Int) < (x.length : Int)) := by omega
        have hxd : decide ((j : Int) < (x.length : Int)) = false := decide_eq_false (by omega)
        have hxg : decide ((x.length : Int) ≤ (j : Int)) = true := decide_eq_true (by omega)
        have hxd2 : decide (j < x.length) = false := decide_eq_false (by omega)
        have hxg2 : decide (x.length ≤ j) = true := decide_eq_true (by omega)
        have hsub : IntKind.i64.wrap ((j : Int) - (x.length : Int)) = (k : Int) := by rw [IntKind.wrap_i64]; omega
        clear hget hkj
        go_wp2_with fail
        apply wp_region_lex (R := Dr) (by kernel_rfl) (by kernel_rfl) Dr.refl (fun _ _ _ => Dr.trans) (Dr.drew _)
        repeat
          first
          | (apply lex_ex Dr.refl
             · rfl
             · intro W hR hΦ
               obtain ⟨nq, rfl⟩ := hR
               go_simp
               first | done | with_reducible rfl)
          | (apply lex_skip
             · rfl)
          simp only [Act.put, List.setIfInBounds_toArray, List.set_cons_zero, List.set_cons_succ]
        refine lex_nil ?_
        intro W hR _
        go_wp2_with fail
        go_roundw
        case rel => exact ⟨j + 1, by go_num, hlt, hdr.trans hR⟩
        case measure => simp [intOf]; omega
    · obtain rfl : j = x.length + y.length := by omega
      go_wp2_with fail
      go_ret
      exact ⟨rfl, e8.trans hdr.ext⟩

end Go.Proofs.Ytmlmeikfgbkhhaa
