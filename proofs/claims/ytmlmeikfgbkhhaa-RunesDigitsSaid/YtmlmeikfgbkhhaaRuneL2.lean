/- The walk of the law RunesWords. -/
import Derived.Test.YtmlmeikfgbkhhaaRuneL1
import Derived.Test.YtmlmeikfgbkhhaaRuneW2
import Derived.Test.YtmlmeikfgbkhhaaReg
namespace Go.Proofs.Ytmlmeikfgbkhhaa
open Go.RowKit

theorem wgo_len : ∀ (t cur : List UInt8), (wgo t cur).length ≤ t.length + 1
  | [], cur => by unfold wgo; split <;> simp
  | b :: t, cur => by
    have h1 := wgo_len t []
    have h2 := wgo_len t (cur ++ [b])
    unfold wgo
    repeat' split
    all_goals simp only [List.length_cons]; omega
theorem wordsL_len (l : List UInt8) : (wordsL l).length ≤ l.length + 1 := wgo_len l []

set_option maxRecDepth 100000 in
set_option maxHeartbeats 2000000 in
theorem words_walk (w : World) (s : List UInt8) (_hs : s.length ≤ maxLen) :
    Calls Try.prog 4 #[.string (bs s)] w (Yes w) := by
  have hcut := fun W => cut_any W s 100
  have Hcut := Lib.hid hcut
  have hl : (s.take 100).length ≤ 1099511627776 := by rw [List.length_take]; omega
  clear hcut
  go_enter Try.func4, Try.ntmps4
  go_wp2_with fail
  refine (begun_any w).mono ?_
  rintro e w1 ⟨rfl, e1⟩
  go_wp2_with fail
  refine (Hcut.out _).mono ?_
  rintro e w2 ⟨rfl, rfl⟩
  clear Hcut
  generalize s.take 100 = l at *
  go_wp2_with fail
  refine (words_any w1 l hl).mono ?_
  rintro e w3 ⟨B, d, base, rfl, hbase, ho, e3⟩
  have e4 := e1.trans e3
  clear e1 e3
  go_wp2_with fail
  refine (rwords_any w3 l hl).mono ?_
  rintro e w5 ⟨B2, d2, base2, rfl, hbase2, ho2, e5⟩
  have e6 := e4.trans e5
  have ho1 := ho.ext e5
  have hlen : (wordsL l).length ≤ 1099511627777 := Nat.le_trans (wordsL_len l) (by omega)
  clear e4 e5 ho
  go_wp2_with fail
  go_loopw [6] (fun i w' => ∃ j : Nat, i = .int .i64 j ∧ j ≤ (wordsL l).length ∧ Dr w5 w') (fun i _ => (wordsL l).length - (intOf i).toNat)
  case atStart => exact ⟨0, rfl, Nat.zero_le _, Dr.refl _⟩
  case round =>
    obtain ⟨j, rfl, hj, hdr⟩ := hrel
    by_cases hlt : j < (wordsL l).length
    · obtain ⟨b, o, hB, hc1⟩ := word_at (ho1.ext hdr.ext) hlt
      obtain ⟨b2, o2, hB2, hc2⟩ := word_at (ho2.ext hdr.ext) hlt
      subst hB hB2
      go_wp2_with fail
      apply wp_region_lex (R := Dr) (by kernel_rfl) (by kernel_rfl) Dr.refl (fun _ _ _ => Dr.trans) (Dr.drew _)
      repeat
        apply lex_ex Dr.refl
        · rfl
        · intro W hR hΦ
          obtain ⟨nq, rfl⟩ := hR
          go_simp
          first | done | with_reducible rfl
        simp only [Act.put, List.setIfInBounds_toArray, List.set_cons_zero, List.set_cons_succ]
      refine lex_nil ?_
      intro W hR _
      go_wp2_with fail
      go_roundw
      case rel => exact ⟨j + 1, by go_num, hlt, hdr.trans hR⟩
      case measure => simp [intOf]; omega
    · obtain rfl : j = (wordsL l).length := by omega
      go_wp2_with fail
      go_ret
      exact ⟨rfl, e6.trans hdr.ext⟩
end Go.Proofs.Ytmlmeikfgbkhhaa
