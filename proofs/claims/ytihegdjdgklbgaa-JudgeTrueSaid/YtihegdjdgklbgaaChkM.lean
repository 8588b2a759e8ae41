/- The walk of check.may. -/
import Derived.Test.YtihegdjdgklbgaaChkW
namespace Go.Proofs.Ytihegdjdgklbgaa
set_option maxRecDepth 100000
open Go.RowKit

set_option maxHeartbeats 1000000 in
theorem to_any (w : World) (x : Int) (p : Addr) (n : Nat) (hc : w.cell? p = some (.int .i64 (n : Nat))) :
    Calls Try.prog 65 #[.int .i64 x, .pointer (some p)] w fun e w' => e = .returned (.bool (toI n x)) ∧ w = w' := by
  by_cases h : 0 ≤ x
  · by_cases h1 : x ≤ (n : Int)
    · go_enter Try.func65, Try.ntmps65
      go_wp2_with fail
      go_ret
      exact ⟨by simp [toI, h, h1], rfl⟩
    · go_enter Try.func65, Try.ntmps65
      go_wp2_with fail
      go_ret
      exact ⟨by simp [toI, h, h1], rfl⟩
  · go_enter Try.func65, Try.ntmps65
    go_wp2_with fail
    go_ret
    exact ⟨by simp only [toI, decide_eq_false (show ¬ 0 ≤ x by omega), Bool.false_and]; rfl, rfl⟩

theorem takes_is (w : World) (c : Int) (h0 : -9223372036854775808 ≤ c) (h1 : c ≤ 9223372036854775807) {t : Int} (ht : takesL c = t) :
    Calls Try.prog 66 #[.int .i64 c] w fun e w' => e = .returned (.int .i64 t) ∧ w = w' := ht ▸ takes_any w c h0 h1
theorem cell_is (w : World) (l : List Int) (t : TypeId) (hl : l.length ≤ 3) {b : Bool} (hb : l.all cellI = b) {B n c : Nat} (hB : B = w.heap.size) (hn : n = l.length) (hc : c = l.length) :
    Calls Try.prog 67 #[.slice (some ⟨B, 0, none⟩) n c] (w.alloc (.cells (ics l).toArray t)) fun e w' => e = .returned (.bool b) ∧ w.alloc (.cells (ics l).toArray t) = w' := by
  subst hb hB hn hc
  exact cell_any _ _ _ _ l (Rd.made w t 1 (ics l) l.length (by simp [ics]) (by have : maxLen = 9223372036854775807 := rfl; omega)) hl

theorem may_0 (a b c : Int) (n : Nat) : mayL (0, a, b, c) n = (a == 0 && b == 0 && c == 0) := rfl
theorem may_1 (a b c : Int) (n : Nat) : mayL (1, a, b, c) n = (cellI a && c == 0) := rfl
theorem may_9 (a b c : Int) (n : Nat) : mayL (9, a, b, c) n = (toI n a && b == 0 && c == 0) := rfl
theorem may_10 (a b c : Int) (n : Nat) : mayL (10, a, b, c) n = (cellI a && toI n b && c == 0) := rfl
theorem may_15 (a b c : Int) (n : Nat) : mayL (15, a, b, c) n = (cellI a && b == 0 && c == 0) := rfl
theorem may_two {x : Int} (a b c : Int) (n : Nat) (h : x = 2 ∨ 11 ≤ x ∧ x ≤ 14) : mayL (x, a, b, c) n = (cellI a && cellI b && c == 0) ∧ takesL x = 2 := by
  have h0 : x ≠ 0 := by omega
  have h1 : x ≠ 1 := by omega
  have h9 : x ≠ 9 := by omega
  have h10 : x ≠ 10 := by omega
  have h15 : x ≠ 15 := by omega
  refine ⟨?_, ?_⟩
  · unfold mayL
    rw [if_neg h0, if_neg h1, if_neg h9, if_neg h10, if_neg h15, if_pos h]
  · unfold takesL
    rw [if_neg h0, if_neg (by omega), if_pos (by omega)]
theorem may_three {x : Int} (a b c : Int) (n : Nat) (h : 3 ≤ x ∧ x ≤ 8) : mayL (x, a, b, c) n = (cellI a && cellI b && cellI c) ∧ takesL x = 3 := by
  refine ⟨?_, ?_⟩
  · unfold mayL
    dsimp only
    rw [if_neg (by omega), if_neg (by omega), if_neg (by omega), if_neg (by omega), if_neg (by omega), if_neg (by omega), if_pos h]
  · unfold takesL
    rw [if_neg (by omega), if_neg (by omega), if_neg (by omega), if_pos h]
theorem may_none {x : Int} (a b c : Int) (n : Nat) (h : x < 0 ∨ 15 < x) : mayL (x, a, b, c) n = false ∧ takesL x = -1 := by
  refine ⟨?_, ?_⟩
  · unfold mayL
    dsimp only
    rw [if_neg (by omega), if_neg (by omega), if_neg (by omega), if_neg (by omega), if_neg (by omega), if_neg (by omega), if_neg (by omega)]
  · unfold takesL
    rw [if_neg (by omega), if_neg (by omega), if_neg (by omega), if_neg (by omega)]
theorem ne0 {c : Int} (h : ¬ c = 0) : (c != 0) = true ∧ (c == 0) = false := ⟨by rw [bne_iff_ne]; exact h, by rw [beq_eq_false_iff_ne]; exact h⟩

set_option maxRecDepth 100000 in
set_option maxHeartbeats 4000000 in
theorem may_any (w : World) (x a b c : Int) (n : Nat) (hx : okI x) :
    Calls Try.prog 58 #[opAgg (x, a, b, c), .int .i64 (n : Nat)] w fun e w' => e = .returned (.bool (mayL (x, a, b, c) n)) ∧ Ext w w' := by
  unfold opAgg okI at *
  have hc : (x < 0 ∨ 15 < x) ∨ x = 0 ∨ x = 1 ∨ x = 9 ∨ x = 10 ∨ x = 15 ∨ (x = 2 ∨ 11 ≤ x ∧ x ≤ 14) ∨ 3 ≤ x ∧ x ≤ 8 := by omega
  rcases hc with hc | rfl | rfl | rfl | rfl | rfl | hc | hc
  · have h := may_none a b c n hc
    have Hm := Lib.hid h.1
    have Ht := Lib.hid h.2
    clear hc h
    go_enter Try.func58, Try.ntmps58
    go_wp2_with fail
    refine (takes_is _ x hx.1 hx.2 Ht.out).mono ?_
    rintro e w1 ⟨rfl, rfl⟩
    go_wp2_with fail
    go_ret
    exact ⟨by rw [Hm.out]; rfl, ((Below.refl _ _).alloc (Nat.le_refl _) _).alloc (by simp) _⟩
  · have Hm := Lib.hid (may_0 a b c n)
    by_cases c0 : c = 0
    · subst c0
      by_cases b0 : b = 0
      · subst b0
        by_cases a0 : a = 0
        · subst a0
          go_enter Try.func58, Try.ntmps58
          go_wp2_with fail
          refine (takes_is _ 0 hx.1 hx.2 (t := 0) rfl).mono ?_
          rintro e w1 ⟨rfl, rfl⟩
          go_wp2_with fail
          go_ret
          exact ⟨rfl, ((Below.refl _ _).alloc (Nat.le_refl _) _).alloc (by simp) _⟩
        · obtain ⟨q1, q2⟩ := ne0 a0
          clear a0
          go_enter Try.func58, Try.ntmps58
          go_wp2_with fail
          refine (takes_is _ 0 hx.1 hx.2 (t := 0) rfl).mono ?_
          rintro e w1 ⟨rfl, rfl⟩
          go_wp2_with fail
          go_ret
          exact ⟨by rw [Hm.out, q2]; rfl, ((Below.refl _ _).alloc (Nat.le_refl _) _).alloc (by simp) _⟩
      · obtain ⟨q1, q2⟩ := ne0 b0
        clear b0
        go_enter Try.func58, Try.ntmps58
        go_wp2_with fail
        refine (takes_is _ 0 hx.1 hx.2 (t := 0) rfl).mono ?_
        rintro e w1 ⟨rfl, rfl⟩
        go_wp2_with fail
        go_ret
        exact ⟨by rw [Hm.out, q2]; simp, ((Below.refl _ _).alloc (Nat.le_refl _) _).alloc (by simp) _⟩
    · obtain ⟨q1, q2⟩ := ne0 c0
      clear c0
      go_enter Try.func58, Try.ntmps58
      go_wp2_with fail
      refine (takes_is _ 0 hx.1 hx.2 (t := 0) rfl).mono ?_
      rintro e w1 ⟨rfl, rfl⟩
      go_wp2_with fail
      go_ret
      exact ⟨by rw [Hm.out, q2]; simp, ((Below.refl _ _).alloc (Nat.le_refl _) _).alloc (by simp) _⟩
  · have Hm := Lib.hid (may_1 a b c n)
    by_cases c0 : c = 0
    · subst c0
      go_enter Try.func58, Try.ntmps58
      go_wp2_with fail
      refine (takes_is _ 1 hx.1 hx.2 (t := 2) rfl).mono ?_
      rintro e w1 ⟨rfl, rfl⟩
      go_wp2_with fail
      refine (cell_is _ [a] _ (by simp) rfl (by simp) rfl rfl).mono ?_
      rintro e w1 ⟨rfl, rfl⟩
      go_wp2_with fail
      go_ret
      exact ⟨by rw [Hm.out]; simp, (((Below.refl _ _).alloc (Nat.le_refl _) _).alloc (by simp) _).alloc (by simp; omega) _⟩
    · obtain ⟨q1, q2⟩ := ne0 c0
      clear c0
      go_enter Try.func58, Try.ntmps58
      go_wp2_with fail
      refine (takes_is _ 1 hx.1 hx.2 (t := 2) rfl).mono ?_
      rintro e w1 ⟨rfl, rfl⟩
      go_wp2_with fail
      go_ret
      exact ⟨by rw [Hm.out, q2]; simp, ((Below.refl _ _).alloc (Nat.le_refl _) _).alloc (by simp) _⟩
  · have Hm := Lib.hid (may_9 a b c n)
    by_cases c0 : c = 0
    · subst c0
      by_cases b0 : b = 0
      · subst b0
        go_enter Try.func58, Try.ntmps58
        go_wp2_with fail
        refine (takes_is _ 9 hx.1 hx.2 (t := 1) rfl).mono ?_
        rintro e w1 ⟨rfl, rfl⟩
        go_wp2_with fail
        refine (to_any _ a _ n (by go_simp)).mono ?_
        rintro e w1 ⟨rfl, rfl⟩
        go_wp2_with fail
        go_ret
        exact ⟨by rw [Hm.out]; simp, ((Below.refl _ _).alloc (Nat.le_refl _) _).alloc (by simp) _⟩
      · obtain ⟨q1, q2⟩ := ne0 b0
        clear b0
        go_enter Try.func58, Try.ntmps58
        go_wp2_with fail
        refine (takes_is _ 9 hx.1 hx.2 (t := 1) rfl).mono ?_
        rintro e w1 ⟨rfl, rfl⟩
        go_wp2_with fail
        go_ret
        exact ⟨by rw [Hm.out, q2]; simp, ((Below.refl _ _).alloc (Nat.le_refl _) _).alloc (by simp) _⟩
    · obtain ⟨q1, q2⟩ := ne0 c0
      clear c0
      go_enter Try.func58, Try.ntmps58
      go_wp2_with fail
      refine (takes_is _ 9 hx.1 hx.2 (t := 1) rfl).mono ?_
      rintro e w1 ⟨rfl, rfl⟩
      go_wp2_with fail
      go_ret
      exact ⟨by rw [Hm.out, q2]; simp, ((Below.refl _ _).alloc (Nat.le_refl _) _).alloc (by simp) _⟩
  · have Hm := Lib.hid (may_10 a b c n)
    by_cases c0 : c = 0
    · subst c0
      cases hca : cellI a
      · have Hca := Lib.hid hca
        clear hca
        go_enter Try.func58, Try.ntmps58
        go_wp2_with fail
        refine (takes_is _ 10 hx.1 hx.2 (t := 2) rfl).mono ?_
        rintro e w1 ⟨rfl, rfl⟩
        go_wp2_with fail
        refine (cell_is _ [a] _ (by simp) (b := false) (by simp [Hca.out]) (by simp) rfl rfl).mono ?_
        rintro e w1 ⟨rfl, rfl⟩
        go_wp2_with fail
        go_ret
        exact ⟨by rw [Hm.out, Hca.out]; rfl, (((Below.refl _ _).alloc (Nat.le_refl _) _).alloc (by simp) _).alloc (by simp; omega) _⟩
      · have Hca := Lib.hid hca
        clear hca
        go_enter Try.func58, Try.ntmps58
        go_wp2_with fail
        refine (takes_is _ 10 hx.1 hx.2 (t := 2) rfl).mono ?_
        rintro e w1 ⟨rfl, rfl⟩
        go_wp2_with fail
        refine (cell_is _ [a] _ (by simp) (b := true) (by simp [Hca.out]) (by simp) rfl rfl).mono ?_
        rintro e w1 ⟨rfl, rfl⟩
        go_wp2_with fail
        refine (to_any _ b _ n (by go_simp)).mono ?_
        rintro e w1 ⟨rfl, rfl⟩
        go_wp2_with fail
        go_ret
        exact ⟨by rw [Hm.out, Hca.out]; simp, (((Below.refl _ _).alloc (Nat.le_refl _) _).alloc (by simp) _).alloc (by simp; omega) _⟩
    · obtain ⟨q1, q2⟩ := ne0 c0
      clear c0
      go_enter Try.func58, Try.ntmps58
      go_wp2_with fail
      refine (takes_is _ 10 hx.1 hx.2 (t := 2) rfl).mono ?_
      rintro e w1 ⟨rfl, rfl⟩
      go_wp2_with fail
      go_ret
      exact ⟨by rw [Hm.out, q2]; simp, ((Below.refl _ _).alloc (Nat.le_refl _) _).alloc (by simp) _⟩
  · have Hm := Lib.hid (may_15 a b c n)
    by_cases c0 : c = 0
    · subst c0
      by_cases b0 : b = 0
      · subst b0
        go_enter Try.func58, Try.ntmps58
        go_wp2_with fail
        refine (takes_is _ 15 hx.1 hx.2 (t := 1) rfl).mono ?_
        rintro e w1 ⟨rfl, rfl⟩
        go_wp2_with fail
        refine (cell_is _ [a, 0, 0] _ (by simp) rfl (by simp) rfl rfl).mono ?_
        rintro e w1 ⟨rfl, rfl⟩
        go_wp2_with fail
        go_ret
        exact ⟨by rw [Hm.out]; simp [cellI], (((Below.refl _ _).alloc (Nat.le_refl _) _).alloc (by simp) _).alloc (by simp; omega) _⟩
      · obtain ⟨q1, q2⟩ := ne0 b0
        clear b0
        go_enter Try.func58, Try.ntmps58
        go_wp2_with fail
        refine (takes_is _ 15 hx.1 hx.2 (t := 1) rfl).mono ?_
        rintro e w1 ⟨rfl, rfl⟩
        go_wp2_with fail
        go_ret
        exact ⟨by rw [Hm.out, q2]; simp, ((Below.refl _ _).alloc (Nat.le_refl _) _).alloc (by simp) _⟩
    · obtain ⟨q1, q2⟩ := ne0 c0
      clear c0
      go_enter Try.func58, Try.ntmps58
      go_wp2_with fail
      refine (takes_is _ 15 hx.1 hx.2 (t := 1) rfl).mono ?_
      rintro e w1 ⟨rfl, rfl⟩
      go_wp2_with fail
      go_ret
      exact ⟨by rw [Hm.out, q2]; simp, ((Below.refl _ _).alloc (Nat.le_refl _) _).alloc (by simp) _⟩
  · have h := may_two a b c n hc
    have Hm := Lib.hid h.1
    have Ht := Lib.hid h.2
    have g0 : (x == 0) = false := by rw [beq_eq_false_iff_ne]; omega
    have g1 : (x == 1) = false := by rw [beq_eq_false_iff_ne]; omega
    have g9 : (x == 9) = false := by rw [beq_eq_false_iff_ne]; omega
    have g10 : (x == 10) = false := by rw [beq_eq_false_iff_ne]; omega
    clear hc h
    by_cases c0 : c = 0
    · subst c0
      go_enter Try.func58, Try.ntmps58
      go_wp2_with fail
      refine (takes_is _ x hx.1 hx.2 Ht.out).mono ?_
      rintro e w1 ⟨rfl, rfl⟩
      go_wp2_with fail
      refine (cell_is _ [a, b, 0] _ (by simp) rfl (by simp) rfl rfl).mono ?_
      rintro e w1 ⟨rfl, rfl⟩
      go_wp2_with fail
      go_ret
      exact ⟨by rw [Hm.out]; simp [cellI], (((Below.refl _ _).alloc (Nat.le_refl _) _).alloc (by simp) _).alloc (by simp; omega) _⟩
    · obtain ⟨q1, q2⟩ := ne0 c0
      clear c0
      go_enter Try.func58, Try.ntmps58
      go_wp2_with fail
      refine (takes_is _ x hx.1 hx.2 Ht.out).mono ?_
      rintro e w1 ⟨rfl, rfl⟩
      go_wp2_with fail
      go_ret
      exact ⟨by rw [Hm.out, q2]; simp, ((Below.refl _ _).alloc (Nat.le_refl _) _).alloc (by simp) _⟩
  · have h := may_three a b c n hc
    have Hm := Lib.hid h.1
    have Ht := Lib.hid h.2
    have g0 : (x == 0) = false := by rw [beq_eq_false_iff_ne]; omega
    have g1 : (x == 1) = false := by rw [beq_eq_false_iff_ne]; omega
    have g9 : (x == 9) = false := by rw [beq_eq_false_iff_ne]; omega
    have g10 : (x == 10) = false := by rw [beq_eq_false_iff_ne]; omega
    clear hc h
    go_enter Try.func58, Try.ntmps58
    go_wp2_with fail
    refine (takes_is _ x hx.1 hx.2 Ht.out).mono ?_
    rintro e w1 ⟨rfl, rfl⟩
    go_wp2_with fail
    refine (cell_is _ [a, b, c] _ (by simp) rfl (by simp) rfl rfl).mono ?_
    rintro e w1 ⟨rfl, rfl⟩
    go_wp2_with fail
    go_ret
    exact ⟨by rw [Hm.out]; simp [Bool.and_assoc], (((Below.refl _ _).alloc (Nat.le_refl _) _).alloc (by simp) _).alloc (by simp; omega) _⟩
end Go.Proofs.Ytihegdjdgklbgaa
