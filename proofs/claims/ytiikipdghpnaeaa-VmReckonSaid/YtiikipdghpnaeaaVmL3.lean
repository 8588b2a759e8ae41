/- The walk of the law VmReckon. -/
import Derived.Test.YtiikipdghpnaeaaVmL2
namespace Go.Proofs.Ytiikipdghpnaeaa
open Go.RowKit
set_option linter.unusedVariables false

def recG (a b : Int) : List Int := [0, a, b, 0, 0, 99] ++ List.replicate 26 0
theorem recG_ok {a b : Int} (ha : ok32 a) (hb : ok32 b) : okG (recG a b) := by
  refine ⟨rfl, fun x hx => ?_⟩
  rcases List.mem_append.1 hx with h | h
  · simp only [List.mem_cons, List.not_mem_nil, or_false] at h
    rcases h with rfl | rfl | rfl | rfl | rfl | rfl <;> first | assumption | simp [ok32]
  · rw [List.eq_of_mem_replicate h]; simp [ok32]
theorem rec_game (k a b : Int) (h : 3 ≤ k ∧ k ≤ 8) : (stepN [114, 101, 99, 107, 111, 110] [] 0 [(k, 5, 1, 2)] (recG a b)).1 = setN (recG a b) 5 (sumN k a b) := by
  have hf : faultL [114, 101, 99, 107, 111, 110] [(k, 5, 1, 2)] = -1 := by
    have hk : k = 3 ∨ k = 4 ∨ k = 5 ∨ k = 6 ∨ k = 7 ∨ k = 8 := by omega
    rcases hk with rfl | rfl | rfl | rfl | rfl | rfl <;> decide +kernel
  have e1 : oneN [114, 101, 99, 107, 111, 110] [] 0 (recG a b) 0 (k, 5, 1, 2) = (setN (recG a b) 5 (sumN k a b), 1) := by
    unfold oneN valN
    dsimp only
    rw [if_neg (by omega), if_neg (by omega), if_neg (by omega), if_neg (by omega), if_neg (by omega), if_neg (by omega), if_neg (by omega), if_neg (by omega), if_neg (by omega)]
    rfl
  rw [step_single hf (by show k ≠ 0; omega) (by rw [e1]; exact Nat.le_refl _), e1]

set_option maxRecDepth 100000 in
set_option maxHeartbeats 8000000 in
theorem reckon_walk (w : World) (c0 : Int) (hc0 : -9223372036854775808 ≤ c0) (hc1 : c0 ≤ 9223372036854775807) (a : Int) (ha0 : -2147483648 ≤ a) (ha1 : a ≤ 2147483647) (b : Int) (hb0 : -2147483648 ≤ b) (hb1 : b ≤ 2147483647) :
    Calls Try.prog 9 #[.int .i64 c0, .int .i32 a, .int .i32 b] w (Yes w) := by
  obtain ⟨m, hm, hm1, hm2⟩ : ∃ m : Int, c0.tmod 6 = m ∧ -5 ≤ m ∧ m ≤ 5 := ⟨_, rfl, by have := Int.lt_tmod_of_pos c0 (show (0 : Int) < 6 by decide); omega, by have := Int.tmod_lt_of_pos c0 (show (0 : Int) < 6 by decide); omega⟩
  go_enter Try.func9, Try.ntmps9
  go_wp2_with fail
  refine (begun9_any _).mono ?_
  rintro e w1 ⟨rfl, x1⟩
  go_wp2_with ((with_reducible refine wpList_load_gm rfl 31 (.tmp 9) rfl rfl Try.underlying31 size_state (g := recG a b) ?hg ?_); case hg => exact (Blk.new' _ _ (g := recG a b) rfl (by simp)).gm)
  have hK1 : 3 ≤ 3 + m % 6 := by omega
  have hK2 : 3 + m % 6 ≤ 8 := by omega
  generalize 3 + m % 6 = K at *
  generalize hV : World.alloc (World.alloc (World.alloc w1 _) _) _ = V
  have eV : Ext w1 V := by subst hV; exact ((Ext.alloc _ _).trans (Ext.alloc _ _)).trans (Ext.alloc _ _)
  have lV : Ro V (some ⟨w1.heap.size, 0, none⟩) 1 1 [(K, 5, 1, 2)] := by subst hV; exact ((ro_new rfl rfl rfl (by simp)).ext (Ext.alloc _ _)).ext (Ext.alloc _ _)
  clear hV
  have hst := step_any V [114, 101, 99, 107, 111, 110] _ 1 1 [(K, 5, 1, 2)] 0 none 0 0 [] (recG a b) (by decide) lV (Rb.nil_ _) (recG_ok ⟨ha0, ha1⟩ ⟨hb0, hb1⟩)
  rw [rec_game K a b ⟨hK1, hK2⟩] at hst
  unfold pAgg at hst
  have Hst := Lib.hid hst
  have Hg : Hid ((setN (recG a b) 5 (sumN K a b)).length = 32) := Lib.hid (by rw [setN_len]; rfl)
  have Hc : Hid (getN (setN (recG a b) 5 (sumN K a b)) ((5 : Nat) : Int) = sumN K a b) := Lib.hid (getN_set rfl (by decide) (by decide) _)
  have Hc1 : Hid (getN (setN (recG a b) 5 (sumN K a b)) ((1 : Nat) : Int) = a) := Lib.hid (by rw [getN_set_ne (by decide) (by decide) (by decide)]; rfl)
  have Hc2 : Hid (getN (setN (recG a b) 5 (sumN K a b)) ((2 : Nat) : Int) = b) := Lib.hid (by rw [getN_set_ne (by decide) (by decide) (by decide)]; rfl)
  clear hst hm hm1 hm2 hc0 hc1
  generalize hG : setN (recG a b) 5 (sumN K a b) = G at *
  clear hG
  have hdiv := fun W => rdiv_is W a b ⟨ha0, ha1⟩ ⟨hb0, hb1⟩
  have Hdiv := Lib.hid hdiv
  have hmul : -4611686018427387904 ≤ a * b ∧ a * b ≤ 4611686018427387904 := by
    have h : (a * b).natAbs ≤ 2147483648 * 2147483648 := by
      rw [Int.natAbs_mul]
      exact Nat.mul_le_mul (by omega) (by omega)
    omega
  clear hdiv
  have hk : K = 3 ∨ K = 4 ∨ K = 5 ∨ K = 6 ∨ K = 7 ∨ K = 8 := by omega
  clear hK1 hK2
  refine Calls.mono Hst.out ?_
  rintro e w2 ⟨rfl, e2⟩
  clear Hst lV
  rcases hk with rfl | rfl | rfl | rfl | rfl | rfl
  · have hv : sumN 3 a b = w32 (a + b) := by simp [sumN]
    rw [hv] at Hc
    clear hv
    go_wp2_with ((with_reducible refine wpList_put_new _ rfl 31 (.tmp 10) (.tmp 33) rfl rfl rfl Hg.out size_state ?_); intro W2 b2 x2 s2; have f5 := b2.gm.cell_ 5 (by decide) Hc.out; have f1 := b2.gm.cell_ 1 (by decide) Hc1.out; have f2 := b2.gm.cell_ 2 (by decide) Hc2.out; have xW := (x1.trans (eV.trans e2)).trans x2; clear b2 x2 s2)
    refine (round_is _ _).mono ?_
    rintro e w3 ⟨rfl, rfl⟩
    go_wp2_with fail
    go_ret
    exact ⟨rfl, xW⟩
  · have hv : sumN 4 a b = w32 (a - b) := by simp [sumN]
    rw [hv] at Hc
    clear hv
    go_wp2_with ((with_reducible refine wpList_put_new _ rfl 31 (.tmp 10) (.tmp 33) rfl rfl rfl Hg.out size_state ?_); intro W2 b2 x2 s2; have f5 := b2.gm.cell_ 5 (by decide) Hc.out; have f1 := b2.gm.cell_ 1 (by decide) Hc1.out; have f2 := b2.gm.cell_ 2 (by decide) Hc2.out; have xW := (x1.trans (eV.trans e2)).trans x2; clear b2 x2 s2)
    refine (round_is _ _).mono ?_
    rintro e w3 ⟨rfl, rfl⟩
    go_wp2_with fail
    go_ret
    exact ⟨rfl, xW⟩
  · have hv : sumN 5 a b = w32 (a * b) := by simp [sumN]
    rw [hv] at Hc
    clear hv
    go_wp2_with ((with_reducible refine wpList_put_new _ rfl 31 (.tmp 10) (.tmp 33) rfl rfl rfl Hg.out size_state ?_); intro W2 b2 x2 s2; have f5 := b2.gm.cell_ 5 (by decide) Hc.out; have f1 := b2.gm.cell_ 1 (by decide) Hc1.out; have f2 := b2.gm.cell_ 2 (by decide) Hc2.out; have xW := (x1.trans (eV.trans e2)).trans x2; clear b2 x2 s2)
    refine (round_is _ _).mono ?_
    rintro e w3 ⟨rfl, rfl⟩
    go_wp2_with fail
    go_ret
    exact ⟨rfl, xW⟩
  · have hv : sumN 6 a b = divN a b := by simp [sumN]
    rw [hv] at Hc
    clear hv
    go_wp2_with ((with_reducible refine wpList_put_new _ rfl 31 (.tmp 10) (.tmp 33) rfl rfl rfl Hg.out size_state ?_); intro W2 b2 x2 s2; have f5 := b2.gm.cell_ 5 (by decide) Hc.out; have f1 := b2.gm.cell_ 1 (by decide) Hc1.out; have f2 := b2.gm.cell_ 2 (by decide) Hc2.out; have xW := (x1.trans (eV.trans e2)).trans x2; clear b2 x2 s2)
    refine (Hdiv.out _).mono ?_
    rintro e w3 ⟨rfl, rfl⟩
    go_wp2_with fail
    go_ret
    exact ⟨rfl, xW⟩
  · by_cases hab : a < b
    · have hv : sumN 7 a b = 1 := by simp [sumN, flagN, hab]
      rw [hv] at Hc
      clear hv
      go_wp2_with ((with_reducible refine wpList_put_new _ rfl 31 (.tmp 10) (.tmp 33) rfl rfl rfl Hg.out size_state ?_); intro W2 b2 x2 s2; have f5 := b2.gm.cell_ 5 (by decide) Hc.out; have f1 := b2.gm.cell_ 1 (by decide) Hc1.out; have f2 := b2.gm.cell_ 2 (by decide) Hc2.out; have xW := (x1.trans (eV.trans e2)).trans x2; clear b2 x2 s2)
      go_ret
      exact ⟨rfl, xW⟩
    · have hv : sumN 7 a b = 0 := by simp [sumN, flagN, hab]
      rw [hv] at Hc
      clear hv
      have hd : decide (a < b) = false := decide_eq_false hab
      go_wp2_with ((with_reducible refine wpList_put_new _ rfl 31 (.tmp 10) (.tmp 33) rfl rfl rfl Hg.out size_state ?_); intro W2 b2 x2 s2; have f5 := b2.gm.cell_ 5 (by decide) Hc.out; have f1 := b2.gm.cell_ 1 (by decide) Hc1.out; have f2 := b2.gm.cell_ 2 (by decide) Hc2.out; have xW := (x1.trans (eV.trans e2)).trans x2; clear b2 x2 s2)
      go_ret
      exact ⟨rfl, xW⟩
  · by_cases hab : a = b
    · have hv : sumN 8 a b = 1 := by simp [sumN, flagN, hab]
      rw [hv] at Hc
      subst hab
      clear hv
      go_wp2_with ((with_reducible refine wpList_put_new _ rfl 31 (.tmp 10) (.tmp 33) rfl rfl rfl Hg.out size_state ?_); intro W2 b2 x2 s2; have f5 := b2.gm.cell_ 5 (by decide) Hc.out; have f1 := b2.gm.cell_ 1 (by decide) Hc1.out; have f2 := b2.gm.cell_ 2 (by decide) Hc2.out; have xW := (x1.trans (eV.trans e2)).trans x2; clear b2 x2 s2)
      go_ret
      exact ⟨rfl, xW⟩
    · have hv : sumN 8 a b = 0 := by simp [sumN, flagN, hab]
      rw [hv] at Hc
      have hd : (a == b) = false := by rw [beq_eq_false_iff_ne]; exact hab
      clear hv hab
      go_wp2_with ((with_reducible refine wpList_put_new _ rfl 31 (.tmp 10) (.tmp 33) rfl rfl rfl Hg.out size_state ?_); intro W2 b2 x2 s2; have f5 := b2.gm.cell_ 5 (by decide) Hc.out; have f1 := b2.gm.cell_ 1 (by decide) Hc1.out; have f2 := b2.gm.cell_ 2 (by decide) Hc2.out; have xW := (x1.trans (eV.trans e2)).trans x2; clear b2 x2 s2)
      go_ret
      exact ⟨rfl, xW⟩
end Go.Proofs.Ytiikipdghpnaeaa
