/- The walk of the law CodeMost. -/
import Derived.Test.YtehelhennbcboaaCodL
namespace Go.Proofs.Ytehelhennbcboaa
open Go.RowKit

theorem encB_pos (t : List UInt8) (l : List OpT) : 0 < (encB t l).length := by
  have h6 := putL_pos t.length
  unfold encB bytesL
  simp only [List.length_append]; omega
/-- A value that is a slice of so many, at least one if b says so. -/
def SlN (b : Bool) (v : Value) (_w : World) : Prop := ∃ A n c, v = .slice A n c ∧ decide ((n : Int) > 0) = b
theorem SlN.stab (b : Bool) : ∀ v w w', SlN b v w → Ext w w' → SlN b v w' := fun _ _ _ h _ => h
theorem encode_len (w : World) (t : List UInt8) (A : Option Addr) (n c : Nat) (l : List OpT) (ht : t.length ≤ 1099511627776) (hl : Ro w A n c l) :
    Calls Try.prog 20 #[pAgg t A n c] w fun r w' => ∃ v, r = .returned v ∧ Ext w w' ∧ SlN (formL t l) v w' := by
  refine (encode_any w t A n c l ht hl).mono ?_
  rintro r w' (⟨h, rfl, e⟩ | ⟨h, g, m, d, rfl, ho, e⟩)
  · exact ⟨_, rfl, e, none, 0, 0, rfl, by rw [h]; rfl⟩
  · refine ⟨_, rfl, e, _, m, d, rfl, ?_⟩
    have h1 := ho.len
    rw [bcs_length] at h1
    have h2 := encB_pos t l
    rw [h, decide_eq_true_eq]; omega

set_option maxRecDepth 100000 in
set_option maxHeartbeats 4000000 in
theorem most_walk (w : World) (n : Int) (_n0 : -9223372036854775808 ≤ n) (_n1 : n ≤ 9223372036854775807) (x a b c : Int) (_hx : okI x) (_ha : okI a) (_hb : okI b) (_hc : okI c) :
    Calls Try.prog 11 #[.int .i64 n, opAgg (x, a, b, c)] w (Yes w) := by
  unfold opAgg
  clear _hx _ha _hb _hc _n0 _n1
  by_cases hn : n < 0 ∨ 70 < n
  · rcases hn with hn | hn
    all_goals
      go_enter Try.func11, Try.ntmps11
      go_wp2_with fail
      refine (begun5_any _).mono ?_
      rintro e w1 ⟨rfl, e1⟩
      go_wp2_with fail
      go_ret
      exact ⟨rfl, (Ext.alloc w _).trans e1⟩
  obtain ⟨N, rfl⟩ := Int.eq_ofNat_of_zero_le (show 0 ≤ n by omega)
  have hN : N ≤ 70 := by omega
  obtain ⟨r, hr⟩ : ∃ r, formL [109, 97, 110, 121] (List.replicate N (x, a, b, c)) = r := ⟨_, rfl⟩
  have henc := fun W A d h => encode_len W [109, 97, 110, 121] A N d (List.replicate N (x, a, b, c)) (by decide) h
  have hform := fun W A d h => form_any W [109, 97, 110, 121] A N d (List.replicate N (x, a, b, c)) (by decide) h
  rw [hr] at henc hform
  unfold pAgg at henc hform
  have Henc := Lib.hid henc
  have Hform := Lib.hid hform
  clear henc hform hr hn
  obtain ⟨i0, hi, hz0, hz1, hz2⟩ := info_parts info_op
  go_enter Try.func11, Try.ntmps11
  go_wp2_with fail
  refine (begun5_any _).mono ?_
  rintro e w1 ⟨rfl, e1⟩
  have x1 := (Ext.alloc w _).trans e1
  have F1 := (FBox.new w 30 x a b c rfl).ext e1
  clear e1
  go_wp2_with fail
  go_loopw [7] (fun i w' => ∃ (k : Nat) (B : Option Addr) (d : Nat), i = .int .i64 (k : Nat) ∧ k ≤ N ∧ Grow w' w1.heap.size w1.heap.size [109, 97, 110, 121] B k d (List.replicate k (x, a, b, c)) ∧ Ext w1 w') (fun i _ => N - (intOf i).toNat)
  case atStart => exact ⟨0, none, 0, rfl, Nat.zero_le _, Grow.start w1 _ _ rfl, Ext.alloc _ _⟩
  case round =>
    obtain ⟨k, B, d, rfl, hk, hg, he⟩ := hrel
    obtain ⟨p0, p1, p2, p3⟩ := id hg.1
    by_cases hlt : k < N
    · obtain ⟨⟨t0, t1, t2, t3⟩, f0, f1, f2, f3⟩ := F1.ext he
      go_wp2_with (at_builtin; refine wpList_append_new _ rfl _ _ 22 rfl w1.heap.size 30 i0 (.agg #[.int .i64 0, .int .i64 0, .int .i64 0, .int .i64 0]) 4 32 Try.underlying22 hi hz0 hz1 hz2 rfl (by decide) B k d _ rfl hg.2.1 1 (ocs (x, a, b, c)) rfl rfl (by simp [ocs, Value.oneCell']) (by unfold maxLen; omega) (by omega) hg.lt ?_; intro B' d' w' ho' hg' hw'; obtain ⟨q0, q1, q2, q3⟩ := hg.mid hg')
      go_roundw
      case rel => exact ⟨k + 1, B', d', by go_num, hlt, by rw [List.replicate_succ']; exact hg.push hg' ho' hw', hg.out (Nat.le_refl _) he hg' _⟩
      case measure => simp [intOf]; omega
    · obtain rfl : k = N := by omega
      go_wp2_with fail
      apply wp_region_lex (R := Ext) (by kernel_rfl) (by kernel_rfl) Ext.refl (fun _ _ _ => Ext.trans) (Ext.drew _)
      apply lex_ex Ext.refl
      · rfl
      · intro W hR hΦ
        obtain ⟨q0, q1, q2, q3⟩ := hg.1.ext hR
        go_simp
        first | done | with_reducible rfl
      simp only [Act.put, List.setIfInBounds_toArray, List.set_cons_zero, List.set_cons_succ]
      apply lex_call (p := SlN r) (SlN.stab r)
      · rfl
      · intro W
        go_simp
        exact ⟨rfl, rfl⟩
      · intro W hR hΦ
        exact Henc.out W _ _ (hg.ro.ext hR)
      intro v
      simp only [Act.put, List.setIfInBounds_toArray, List.set_cons_zero, List.set_cons_succ]
      apply lex_rel (p := fun u _ => ∃ m : Nat, u = .int .i64 (m : Nat) ∧ decide ((m : Int) > 0) = r) Ext.refl (fun _ _ _ h _ => h)
      · rfl
      · intro W hR hΦ
        obtain ⟨A, m, c, rfl, hm⟩ := hΦ.1 rfl
        refine ⟨.int .i64 (m : Nat), ?_, m, rfl, hm⟩
        go_simp
        first | done | with_reducible rfl
      intro v2
      simp only [Act.put, List.setIfInBounds_toArray, List.set_cons_zero, List.set_cons_succ]
      apply lex_ex (u := .bool r) Ext.refl
      · rfl
      · intro W hR hΦ
        obtain ⟨m, rfl, hm⟩ := hΦ.1 rfl
        have hm' : decide ((0 : Int) < (m : Int)) = r := hm
        go_simp
        first | done | (simpa using hm') | with_reducible rfl
      simp only [Act.put, List.setIfInBounds_toArray, List.set_cons_zero, List.set_cons_succ]
      apply lex_ex Ext.refl
      · rfl
      · intro W hR hΦ
        obtain ⟨q0, q1, q2, q3⟩ := hg.1.ext hR
        go_simp
        first | done | with_reducible rfl
      simp only [Act.put, List.setIfInBounds_toArray, List.set_cons_zero, List.set_cons_succ]
      apply lex_callx (u := .bool r)
      · rfl
      · intro W
        go_simp
        exact ⟨rfl, rfl⟩
      · intro W hR hΦ
        exact (Hform.out W _ _ (hg.ro.ext hR)).mono fun _ _ h => h
      simp only [Act.put, List.setIfInBounds_toArray, List.set_cons_zero, List.set_cons_succ]
      apply lex_ex (u := .bool true) Ext.refl
      · rfl
      · intro W hR hΦ
        go_simp
        first | done | simp | with_reducible rfl
      simp only [Act.put, List.setIfInBounds_toArray, List.set_cons_zero, List.set_cons_succ]
      apply lex_ex Ext.refl
      · rfl
      · intro W hR hΦ
        go_simp
        first | done | with_reducible rfl
      simp only [Act.put, List.setIfInBounds_toArray, List.set_cons_zero, List.set_cons_succ]
      refine lex_nil ?_
      intro W hR _
      go_wp2_with fail
      go_ret
      exact ⟨rfl, (x1.trans he).trans hR⟩
end Go.Proofs.Ytehelhennbcboaa
