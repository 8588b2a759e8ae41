/- The walk of the law VmJump. -/
import Derived.Test.YtiikipdghpnaeaaVmL5
import Derived.Test.YtiikipdghpnaeaaBox
namespace Go.Proofs.Ytiikipdghpnaeaa
open Go.RowKit
set_option linter.unusedVariables false

def juT : List UInt8 := [106, 117, 109, 112]
def jumpK (n k : Nat) : List OpT := (10, 0, (n : Int) + 1, 0) :: (List.range k).map fun i : Nat => ((1 : Int), 2 + (i : Int), (7 : Int), (0 : Int))
theorem jumpK_succ (n k : Nat) : jumpK n (k + 1) = jumpK n k ++ [(1, 2 + (k : Int), 7, 0)] := by unfold jumpK; rw [List.range_succ, List.map_append]; rfl
theorem jumpK_len (n k : Nat) : (jumpK n k).length = k + 1 := by simp [jumpK]
def jumpL (n : Nat) : List OpT := jumpK n n ++ [(1, 1, 5, 0)]
theorem jumpL_len (n : Nat) : (jumpL n).length = n + 2 := by simp [jumpL, jumpK_len]
theorem jump_fault : ((List.range 21).all fun n => decide (faultL juT (jumpL n) = -1)) = true := by decide +kernel
theorem jump_zero : ((List.range 21).all fun n => decide ((stepN juT [] 0 (jumpL n) (two 0 0)).1 = two 0 5)) = true := by decide +kernel
/-- The game behind k sets. -/
def juG (a : Int) (k : Nat) : List Int := [a, 0] ++ List.replicate k 7 ++ List.replicate (30 - k) 0
theorem juG_len {a : Int} {k : Nat} (h : k ≤ 30) : (juG a k).length = 32 := by simp [juG]; omega
theorem juG_succ (a : Int) {k : Nat} (h : k < 30) : setN (juG a k) (2 + (k : Int)) 7 = juG a (k + 1) := by
  have e : (2 + (k : Int)).toNat = ([a, 0] ++ List.replicate k (7 : Int)).length := by simp; omega
  unfold setN juG
  rw [e, List.set_append_right _ _ (Nat.le_refl _), Nat.sub_self]
  obtain ⟨m, hm⟩ : ∃ m, 30 - k = m + 1 := ⟨29 - k, by omega⟩
  rw [hm, show 30 - (k + 1) = m by omega, List.replicate_succ, List.replicate_succ' (n := k)]
  simp
theorem jumpL_at {n j : Nat} (h : j < n) : ∃ hj : 1 + j < (jumpL n).length, (jumpL n)[1 + j] = (1, 2 + (j : Int), 7, 0) := by
  refine ⟨by rw [jumpL_len]; omega, ?_⟩
  unfold jumpL
  rw [List.getElem_append_left (by rw [jumpK_len]; omega)]
  unfold jumpK
  simp [Nat.add_comm 1 j]
theorem jumpL_end (n : Nat) : ∃ hj : 1 + n < (jumpL n).length, (jumpL n)[1 + n] = (1, 1, 5, 0) := by
  refine ⟨by rw [jumpL_len]; omega, ?_⟩
  unfold jumpL
  rw [List.getElem_append_right (by rw [jumpK_len]; omega)]
  simp [jumpK_len, Nat.add_comm]
theorem jump_sets {n : Nat} (hn : n ≤ 20) (a : Int) : ∀ j, j ≤ n → (runN juT [] 0 (jumpL n) 199 1 (juG a 0)).1 = (runN juT [] 0 (jumpL n) (199 - j) (1 + j) (juG a j)).1
  | 0, _ => rfl
  | j + 1, h => by
    rw [jump_sets hn a j (by omega)]
    obtain ⟨hj, e⟩ := jumpL_at (n := n) (j := j) (by omega)
    obtain ⟨f, hf⟩ : ∃ f, 199 - j = f + 1 := ⟨198 - j, by omega⟩
    rw [hf, runN_go juT [] 0 (jumpL n) f (1 + j) _ hj (by rw [e]; exact (by decide : (1 : Int) ≠ 0)), e]
    have e2 : oneN juT [] 0 (juG a j) (1 + j) (1, 2 + (j : Int), 7, 0) = (juG a (j + 1), 1 + (j + 1)) := by
      have : valN juT [] 0 (juG a j) (1, 2 + (j : Int), 7, 0) = 7 := by simp [valN, w32]
      simp [oneN, this, juG_succ a (show j < 30 by omega), Nat.add_assoc]
    rw [e2, show 199 - (j + 1) = f by omega]
theorem jump_game {n : Nat} (hn : n ≤ 20) (a : Int) (ha : a ≠ 0) : (stepN juT [] 0 (jumpL n) (two a 0)).1 = setN (juG a n) 1 5 := by
  have hf : faultL juT (jumpL n) = -1 := by
    have h := List.all_eq_true.1 jump_fault n (List.mem_range.2 (by omega))
    simpa using h
  have e : stepN juT [] 0 (jumpL n) (two a 0) = runN juT [] 0 (jumpL n) 200 0 (two a 0) := if_pos hf
  have h0 : (jumpL n)[0]'(by rw [jumpL_len]; omega) = (10, 0, (n : Int) + 1, 0) := rfl
  rw [e, runN_go juT [] 0 (jumpL n) 199 0 _ (by rw [jumpL_len]; omega) (by rw [h0]; exact (by decide : (10 : Int) ≠ 0)), h0]
  have e1 : oneN juT [] 0 (two a 0) 0 (10, 0, (n : Int) + 1, 0) = (juG a 0, 1) := by
    have hg : getN (two a 0) 0 = a := rfl
    unfold oneN
    dsimp only
    rw [if_neg (by decide), if_pos rfl, hg, if_neg ha]
    rfl
  rw [e1]
  show (runN juT [] 0 (jumpL n) 199 1 (juG a 0)).1 = _
  rw [jump_sets hn a n (Nat.le_refl _)]
  obtain ⟨hj, e3⟩ := jumpL_end n
  obtain ⟨f, hf2⟩ : ∃ f, 199 - n = f + 1 := ⟨198 - n, by omega⟩
  rw [hf2, runN_go juT [] 0 (jumpL n) f (1 + n) _ hj (by rw [e3]; decide), e3]
  have e2 : oneN juT [] 0 (juG a n) (1 + n) (1, 1, 5, 0) = (setN (juG a n) 1 5, 1 + n + 1) := by
    have : valN juT [] 0 (juG a n) (1, 1, 5, 0) = 5 := by simp [valN, w32]
    simp [oneN, this]
  rw [e2, runN_end _ _ _ _ _ _ _ (by rw [jumpL_len]; omega)]
theorem jump_game0 {n : Nat} (hn : n ≤ 20) : (stepN juT [] 0 (jumpL n) (two 0 0)).1 = two 0 5 := by
  have h := List.all_eq_true.1 jump_zero n (List.mem_range.2 (by omega))
  simpa using h

set_option maxRecDepth 100000 in
set_option maxHeartbeats 4000000 in
theorem jump_walk (w : World) (a : Int) (ha0 : -2147483648 ≤ a) (ha1 : a ≤ 2147483647) (n0 : Int) (_h0 : -9223372036854775808 ≤ n0) (_h1 : n0 ≤ 9223372036854775807) : Calls Try.prog 10 #[.int .i32 a, .int .i64 n0] w (Yes w) := by
  by_cases hn : n0 < 0 ∨ 20 < n0
  · rcases hn with hn | hn
    all_goals
      go_enter Try.func10, Try.ntmps10
      go_wp2_with fail
      refine (begun9_any _).mono ?_
      rintro e w1 ⟨rfl, e1⟩
      go_wp2_with fail
      go_ret
      exact ⟨rfl, e1⟩
  obtain ⟨n, rfl⟩ := Int.eq_ofNat_of_zero_le (show 0 ≤ n0 by omega)
  have hn2 : n ≤ 20 := by omega
  have hn4 : (n : Int) ≤ 20 := by omega
  have hok := two_ok (a := a) (b := 0) ⟨ha0, ha1⟩ (by simp [ok32])
  clear hn _h0 _h1
  obtain ⟨i0, hi, hz0, hz1, hz2⟩ := info_parts info_op
  go_enter Try.func10, Try.ntmps10
  go_wp2_with fail
  refine (begun9_any _).mono ?_
  rintro e w1 ⟨rfl, x1⟩
  go_wp2_with fail
  generalize hV : World.alloc (World.alloc w1 _) _ = V
  have xV : Ext w1 V := by subst hV; exact (Ext.alloc _ _).trans (Ext.alloc _ _)
  have gV : Grow V w1.heap.size (w1.heap.size + 1) juT (some ⟨w1.heap.size, 0, none⟩) 1 1 (jumpK n 0) := by
    subst hV
    refine ⟨PBox.new _ _ _ _ _ _ (by simp), (Own.made w1 w1.heap.size 44 4 (opcs (jumpK n 0)) 1 (Nat.le_refl _) (by decide) rfl).ext (Ext.alloc _ _), ?_, Nat.le_succ _⟩
    intro e
    have e2 : w1.heap.size = w1.heap.size + 1 := Option.some.inj e
    omega
  clear hV
  go_loopw [7] (fun i w' => ∃ (k : Nat) (B : Option Addr) (d : Nat), i = .int .i64 (k : Nat) ∧ k ≤ n ∧ Grow w' w1.heap.size (w1.heap.size + 1) juT B (k + 1) d (jumpK n k) ∧ Ext w1 w') (fun i _ => n - (intOf i).toNat)
  case atStart => exact ⟨0, _, 1, rfl, Nat.zero_le _, gV, xV⟩
  case round =>
    obtain ⟨k, B, d, rfl, hk, hg, he⟩ := hrel
    obtain ⟨p0, p1, p2, p3⟩ := id hg.1
    by_cases hlt : k < n
    · have hkm : (k : Int) % 20 = k := by omega
      go_wp2_with (at_builtin; refine wpList_append_new _ rfl _ _ 22 rfl w1.heap.size 44 i0 (.agg #[.int .i64 0, .int .i64 0, .int .i64 0, .int .i64 0]) 4 32 Try.underlying22 hi hz0 hz1 hz2 rfl (by decide) B (k + 1) d _ rfl hg.2.1 1 (ocs (1, 2 + (k : Int), 7, 0)) rfl rfl (by simp [ocs, Value.oneCell']) (by unfold maxLen; omega) (by omega) hg.lt ?_; intro B' d' w' ho' hg' hw'; obtain ⟨q0, q1, q2, q3⟩ := hg.mid hg')
      go_roundw
      case rel => exact ⟨k + 1, B', d', by go_num, hlt, by rw [jumpK_succ]; exact hg.push hg' ho' hw', hg.out (Nat.le_refl _) he hg' _⟩
      case measure => simp [intOf]; omega
    · obtain rfl : k = n := by omega
      go_wp2_with (first
        | (at_builtin; refine wpList_append_new _ rfl _ _ 22 rfl w1.heap.size 44 i0 (.agg #[.int .i64 0, .int .i64 0, .int .i64 0, .int .i64 0]) 4 32 Try.underlying22 hi hz0 hz1 hz2 rfl (by decide) B (k + 1) d _ rfl hg.2.1 1 (ocs (1, 1, 5, 0)) rfl rfl (by simp [ocs, Value.oneCell']) (by unfold maxLen; omega) (by omega) hg.lt ?_; intro B' d' w' ho' hg' hw'; obtain ⟨q0, q1, q2, q3⟩ := hg.mid hg'; have hlt2 := World.block_lt_of_cell? w' _ q0)
        | ((with_reducible refine wpList_load_gm rfl 31 (.tmp 8) rfl rfl Try.underlying31 size_state (g := two a 0) ?hg ?_); case hg => exact (Blk.new' _ _ (g := two a 0) rfl (by simp)).gm))
      have hG := hg.push hg' ho' hw'
      have xO := x1.trans (hg.out (Nat.le_refl _) he hg' (.slice B' (k + 1 + 1) d'))
      generalize hV : World.alloc (World.setCell w' _ _) _ = U
      have hl : Ro U B' (k + 1 + 1) d' (jumpL k) := by subst hV; exact hG.ro.ext (Ext.alloc _ _)
      have xU : Ext w U := by subst hV; exact xO.trans (Ext.alloc _ _)
      clear hV ho' hg' hw' q0 q1 q2 q3 p0 p1 p2 p3 hG xO hg he hlt hk x1 gV xV
      have hst := step_any U juT B' (k + 1 + 1) d' (jumpL k) 0 none 0 0 [] (two a 0) (by decide) hl (Rb.nil_ _) hok
      unfold pAgg at hst
      have hG32 := (stepN_ok juT [] 0 (jumpL k) hok).1
      have g1 : getN (stepN juT [] 0 (jumpL k) (two a 0)).1 ((1 : Nat) : Int) = 5 := by
        by_cases ha : a = 0
        · subst ha; rw [jump_game0 hn2]; rfl
        · rw [jump_game hn2 a ha]; exact getN_set (juG_len (by omega)) (by decide) (by decide) _
      have g0 : getN (stepN juT [] 0 (jumpL k) (two a 0)).1 ((0 : Nat) : Int) = a := by
        by_cases ha : a = 0
        · subst ha; rw [jump_game0 hn2]; rfl
        · rw [jump_game hn2 a ha, getN_set_ne (by decide) (by decide) (by decide)]; rfl
      have gs : ∀ i, i < k → getN (stepN juT [] 0 (jumpL k) (two a 0)).1 ((2 + i : Nat) : Int) = if a = 0 then 0 else 7 := by
        intro i hik
        by_cases ha : a = 0
        · rw [if_pos ha]
          subst ha; rw [jump_game0 hn2]
          unfold getN two
          rw [Int.toNat_natCast, List.getD_eq_getElem?_getD, List.getElem?_append_right (by simp), List.getElem?_replicate]
          split <;> rfl
        · rw [if_neg ha, jump_game hn2 a ha, getN_set_ne (by decide) (by omega) (by omega)]
          unfold getN juG
          rw [Int.toNat_natCast, List.getD_eq_getElem?_getD, List.append_assoc, List.getElem?_append_right (by simp), List.getElem?_append_left (by simp; omega), List.getElem?_replicate, if_pos (by simp; omega)]
          rfl
      have Hst := Lib.hid hst
      have H32 := Lib.hid hG32
      have H1 := Lib.hid g1
      have H0 := Lib.hid g0
      have Hs := Lib.hid gs
      clear hst hG32 g1 g0 gs
      generalize (stepN juT [] 0 (jumpL k) (two a 0)).1 = G at *
      refine Calls.mono Hst.out ?_
      rintro e w2 ⟨rfl, e2⟩
      have xW := xU.trans e2
      clear Hst e2 xU hl
      go_wp2_with ((with_reducible refine wpList_put_new _ rfl 31 (.tmp 9) (.tmp 50) rfl rfl rfl H32.out size_state ?_); intro W2 b2 x2 s2; have xX := xW.trans x2; clear x2 s2)
      have bg := b2.gm
      have f0 := bg.cell_ 0 (by decide) H0.out
      have f1 := bg.cell_ 1 (by decide) H1.out
      clear b2
      generalize w2.heap.size = gb at *
      go_loop [10] (fun i => ∃ j : Nat, i = .int .i64 (j : Nat) ∧ j ≤ k) (fun i => k - (intOf i).toNat)
      case atStart => exact ⟨0, rfl, Nat.zero_le _⟩
      case round =>
        obtain ⟨j, rfl, hj⟩ := hrel
        by_cases hjk : j < k
        · have hjm : (j : Int) % 20 = j := by omega
          have fj := bg.cell_ (2 + j) (by omega) (Hs.out j hjk)
          have hj32 : 2 + (j : Int) < 32 := by omega
          have hto : (2 + (j : Int)).toNat = 2 + j := by omega
          by_cases ha : a = 0
          · rw [if_pos ha] at fj
            subst ha
            go_wp2_with fail
            go_round
            case rel => exact ⟨j + 1, by go_num, hjk⟩
            case measure => simp [intOf]; omega
          · rw [if_neg ha] at fj
            have hab : (a == 0) = false := by rw [beq_eq_false_iff_ne]; exact ha
            clear ha
            go_wp2_with fail
            go_round
            case rel => exact ⟨j + 1, by go_num, hjk⟩
            case measure => simp [intOf]; omega
        · go_wp2_with fail
          go_ret
          exact ⟨rfl, xX⟩
end Go.Proofs.Ytiikipdghpnaeaa
