/- The walk of the law VmFuel. -/
import Derived.Test.YtiikipdghpnaeaaVmL5
import Derived.Test.YtiikipdghpnaeaaBox
namespace Go.Proofs.Ytiikipdghpnaeaa
open Go.RowKit
set_option linter.unusedVariables false

def fuT : List UInt8 := [114, 111, 117, 110, 100]
def addL (n : Nat) : List OpT := List.replicate n (3, 0, 0, 1)
theorem addL_succ (n : Nat) : addL (n + 1) = addL n ++ [(3, 0, 0, 1)] := List.replicate_succ'
def fuelN (n : Nat) : Nat := 200 / (n + 1) * n + min (200 % (n + 1)) n
theorem fuel_all : ((List.range 61).all fun n => n == 0 || decide (stepN fuT [] 0 (addL n ++ [(9, 0, 0, 0)]) (two 0 1) = (two (fuelN n : Nat) 1, 200))) = true := by decide +kernel
theorem fuel_is {n : Nat} (h1 : 1 ≤ n) (h2 : n ≤ 60) : stepN fuT [] 0 (addL n ++ [(9, 0, 0, 0)]) (two 0 1) = (two (fuelN n : Nat) 1, 200) := by
  have h := List.all_eq_true.1 fuel_all n (List.mem_range.2 (by omega))
  rw [Bool.or_eq_true, decide_eq_true_eq, beq_iff_eq] at h
  rcases h with h | h
  · omega
  · exact h
theorem fuelN_le {n : Nat} (h1 : 1 ≤ n) (h2 : n ≤ 60) : fuelN n ≤ 260 := by
  unfold fuelN
  have h3 : 200 / (n + 1) * n ≤ 200 := by
    have := Nat.div_mul_le_self 200 (n + 1)
    have h4 : 200 / (n + 1) * n ≤ 200 / (n + 1) * (n + 1) := Nat.mul_le_mul_left _ (by omega)
    omega
  have := Nat.min_le_right (200 % (n + 1)) n
  omega

set_option maxRecDepth 100000 in
set_option maxHeartbeats 4000000 in
theorem fuel_walk (w : World) (n0 : Int) (_h0 : -9223372036854775808 ≤ n0) (_h1 : n0 ≤ 9223372036854775807) : Calls Try.prog 5 #[.int .i64 n0] w (Yes w) := by
  by_cases hn : n0 < 1 ∨ 60 < n0
  · rcases hn with hn | hn
    all_goals
      go_enter Try.func5, Try.ntmps5
      go_wp2_with fail
      refine (begun9_any _).mono ?_
      rintro e w1 ⟨rfl, e1⟩
      go_wp2_with fail
      go_ret
      exact ⟨rfl, e1⟩
  obtain ⟨n, rfl⟩ := Int.eq_ofNat_of_zero_le (show 0 ≤ n0 by omega)
  have hn1 : 1 ≤ n := by omega
  have hn2 : n ≤ 60 := by omega
  have hn3 : (1 : Int) ≤ n := by omega
  have hn4 : (n : Int) ≤ 60 := by omega
  clear hn _h0 _h1
  obtain ⟨i0, hi, hz0, hz1, hz2⟩ := info_parts info_op
  go_enter Try.func5, Try.ntmps5
  go_wp2_with fail
  refine (begun9_any _).mono ?_
  rintro e w1 ⟨rfl, x1⟩
  go_wp2_with fail
  go_loopw [5] (fun i w' => ∃ (k : Nat) (B : Option Addr) (d : Nat), i = .int .i64 (k : Nat) ∧ k ≤ n ∧ Grow w' w1.heap.size w1.heap.size fuT B k d (addL k) ∧ Ext w1 w') (fun i _ => n - (intOf i).toNat)
  case atStart => exact ⟨0, none, 0, rfl, Nat.zero_le _, Grow.start w1 _ _ rfl, Ext.alloc _ _⟩
  case round =>
    obtain ⟨k, B, d, rfl, hk, hg, he⟩ := hrel
    obtain ⟨p0, p1, p2, p3⟩ := id hg.1
    by_cases hlt : k < n
    · go_wp2_with (at_builtin; refine wpList_append_new _ rfl _ _ 22 rfl w1.heap.size 44 i0 (.agg #[.int .i64 0, .int .i64 0, .int .i64 0, .int .i64 0]) 4 32 Try.underlying22 hi hz0 hz1 hz2 rfl (by decide) B k d _ rfl hg.2.1 1 (ocs (3, 0, 0, 1)) rfl rfl (by simp [ocs, Value.oneCell']) (by unfold maxLen; omega) (by omega) hg.lt ?_; intro B' d' w' ho' hg' hw'; obtain ⟨q0, q1, q2, q3⟩ := hg.mid hg')
      go_roundw
      case rel => exact ⟨k + 1, B', d', by go_num, hlt, by rw [addL_succ]; exact hg.push hg' ho' hw', hg.out (Nat.le_refl _) he hg' _⟩
      case measure => simp [intOf]; omega
    · obtain rfl : k = n := by omega
      go_wp2_with (first
        | (at_builtin; refine wpList_append_new _ rfl _ _ 22 rfl w1.heap.size 44 i0 (.agg #[.int .i64 0, .int .i64 0, .int .i64 0, .int .i64 0]) 4 32 Try.underlying22 hi hz0 hz1 hz2 rfl (by decide) B k d _ rfl hg.2.1 1 (ocs (9, 0, 0, 0)) rfl rfl (by simp [ocs, Value.oneCell']) (by unfold maxLen; omega) (by omega) hg.lt ?_; intro B' d' w' ho' hg' hw'; obtain ⟨q0, q1, q2, q3⟩ := hg.mid hg'; have hlt2 := World.block_lt_of_cell? w' _ q0)
        | ((with_reducible refine wpList_load_gm rfl 31 (.tmp 6) rfl rfl Try.underlying31 size_state (g := two 0 1) ?hg ?_); case hg => exact (Blk.new' _ _ (g := two 0 1) rfl (by simp)).gm))
      have hG := hg.push hg' ho' hw'
      have xO := x1.trans (hg.out (Nat.le_refl _) he hg' (.slice B' (k + 1) d'))
      generalize hV : World.alloc (World.setCell w' _ _) _ = V
      have hl : Ro V B' (k + 1) d' (addL k ++ [(9, 0, 0, 0)]) := by subst hV; exact hG.ro.ext (Ext.alloc _ _)
      have gV : Gm V w'.heap.size (two 0 1) := by subst hV; exact (Blk.new' _ _ (g := two 0 1) rfl (by simp)).gm
      have pV : PBox V w1.heap.size fuT B' (k + 1) d' := by subst hV; exact hG.1.ext (Ext.alloc _ _)
      have xV : Ext w V := by subst hV; exact xO.trans (Ext.alloc _ _)
      have hb1 : 0 < k + 1 → ∀ a, B' = some a → a.block ≠ V.heap.size + 1 := fun h a ha => by have := Rd.lt hl (by omega) a ha; omega
      clear hV ho' hg' hw' q0 q1 q2 q3 p0 p1 p2 p3 hG xO hg he hlt hk x1 hb1
      generalize w'.heap.size = sb at *
      have hst := step_any V fuT B' (k + 1) d' (addL k ++ [(9, 0, 0, 0)]) 0 none 0 0 [] (two 0 1) (by decide) hl (Rb.nil_ _) (two_ok (by simp [ok32]) (by simp [ok32]))
      have hrun := fun W b h1 h3 h4 => run_any W b 37 fuT B' (k + 1) d' (addL k ++ [(9, 0, 0, 0)]) 0 none 0 0 [] (two 0 1) (memI_mem b) (by decide) h1 (Rb.nil_ _) h3 (two_ok (by simp [ok32]) (by simp [ok32])) h4 (fun h => absurd h (by decide)) rfl rfl
      rw [fuel_is hn1 hn2] at hst hrun
      unfold pAgg at hst hrun
      dsimp only at hst hrun
      have Hst := Lib.hid hst
      have Hrun := Lib.hid hrun
      have hfl := fuelN_le hn1 hn2
      obtain ⟨Q, hQ⟩ : ∃ Q, 200 / (k + 1) = Q := ⟨_, rfl⟩
      obtain ⟨R, hR0⟩ : ∃ R, 200 % (k + 1) = R := ⟨_, rfl⟩
      have hfe : fuelN k = Q * k + min R k := by unfold fuelN; rw [hQ, hR0]
      have hq : (200 : Int).tdiv ((k : Int) + 1) = (Q : Nat) := by
        rw [← hQ]
        show Int.tdiv ((200 : Nat) : Int) ((k + 1 : Nat) : Int) = _
        rw [Int.ofNat_tdiv]
      have hr : (200 : Int).tmod ((k : Int) + 1) = (R : Nat) := by
        rw [← hR0]
        show Int.tmod ((200 : Nat) : Int) ((k + 1 : Nat) : Int) = _
        rw [← Int.ofNat_tmod]
      have hQk : Q * k ≤ 200 := by rw [← hQ]; exact Nat.le_trans (Nat.mul_le_mul_left _ (by omega)) (Nat.div_mul_le_self 200 (k + 1))
      have hQ2 : Q ≤ 200 := by rw [← hQ]; exact Nat.div_le_self _ _
      have hR2 : R ≤ 200 := by rw [← hR0]; exact Nat.mod_le _ _
      obtain ⟨M, hM⟩ : ∃ M, min R k = M := ⟨_, rfl⟩
      obtain ⟨Pk, hPk⟩ : ∃ M, Q * k = M := ⟨_, rfl⟩
      rw [hM, hPk] at hfe
      have hPi : (Q : Int) * (k : Int) = (Pk : Nat) := by rw [← hPk]; simp
      have hw1 : IntKind.i64.wrap ((k : Int) + 1) = (k : Int) + 1 := IntWalk.i64_in _ (by omega)
      have hk1 : ((k : Int) + 1 = 0) = False := eq_false (by omega)
      have hwq : IntKind.i64.wrap (Q : Int) = Q := IntWalk.i64_in _ (by omega)
      have hwr : IntKind.i64.wrap (R : Int) = R := IntWalk.i64_in _ (by omega)
      have hwp : IntKind.i64.wrap (Pk : Int) = Pk := IntWalk.i64_in _ (by omega)
      have hws : IntKind.i64.wrap ((Pk : Int) + M) = (Pk : Int) + M := IntWalk.i64_in _ (by omega)
      have hmi : min (R : Int) (k : Int) = (M : Nat) := by omega
      have hfe2 : ((Pk : Int) + M) = ((fuelN k : Nat) : Int) := by omega
      clear hQ hR0 hfe hQk hPk hM
      have Hc : Hid (getN (two (fuelN k : Nat) 1) ((0 : Nat) : Int) = (fuelN k : Nat)) := Lib.hid rfl
      have Hg : Hid ((two (fuelN k : Nat) 1).length = 32) := Lib.hid rfl
      clear hst hrun
      generalize fuelN k = F at *
      generalize two (F : Nat) 1 = G at *
      refine Calls.mono Hst.out ?_
      rintro e w2 ⟨rfl, e2⟩
      have hl := hl.ext e2
      have gW := gV.ext e2
      have pW := pV.ext e2
      have xW := xV.trans e2
      obtain ⟨p0, p1, p2, p3⟩ := id pW
      have lt2 := pW.lt
      clear pV xV gV e2 Hst
      go_wp2_with ((with_reducible refine wpList_put_new _ rfl 31 (.tmp 7) (.tmp 40) rfl rfl rfl Hg.out size_state ?_); intro W2 b2 x2 s2; have f0 := b2.gm.cell_ 0 (by decide) Hc.out; have hl3 := hl.ext x2; have g3 := gW.ext x2; have pb3 := pW.ext x2; have xX := xW.trans x2; clear b2 x2 s2)
      have hways : R < k ∨ R = k ∨ k < R := by omega
      rcases hways with h | h | h
      · have hx1 : (R < k) = True := eq_true h
        have hx2 : (k < R) = False := eq_false (by omega)
        have hx3 : (R ≤ k) = True := eq_true (by omega)
        have hx4 : (k ≤ R) = False := eq_false (by omega)
        have hM2 : (M : Int) = R := by omega
        rw [hM2] at hfe2
        clear h hmi hM2 hws
        apply wp_region_lex (R := Ext) (by kernel_rfl) (by kernel_rfl) Ext.refl (fun _ _ _ => Ext.trans) (Ext.drew _)
        repeat
          apply lex_ex Ext.refl
          · rfl
          · intro W' hR hΦ
            go_simp
            first | done | with_reducible rfl
          simp only [Act.put, List.setIfInBounds_toArray, List.set_cons_zero, List.set_cons_succ]
        refine lex_nil ?_
        intro W3 hR3 hΦ
        have f0 := hR3.cell f0
        have hl4 := hl3.ext hR3
        have g4 := g3.ext hR3
        have pb4 := pb3.ext hR3
        have xY := xX.trans hR3
        obtain ⟨q0, q1, q2, q3⟩ := id pb4
        have hsz : (gcs (two 0 1)).size = 32 := rfl
        have hfold := foldSet (two 0 1) rfl
        have ltp := pb4.lt
        have ltf := World.block_lt_of_cell? W3 _ f0
        clear hΦ hl3 g3 pb3 xX hR3
        go_wp2_with (with_reducible refine wpList_load_gm rfl 31 (.tmp 6) rfl rfl Try.underlying31 size_state g4 ?_)
        generalize hU : World.alloc W3 _ = U
        have eU : Ext W3 U := by subst hU; exact Ext.alloc _ _
        have mU : Mm U W3.heap.size (two 0 1) := by subst hU; have := Mm.new W3 39 (g := two 0 1) rfl rfl; simpa using this
        clear hU hfold hsz
        have xU := xY.trans eU
        refine Calls.mono (Hrun.out U W3.heap.size (hl4.ext eU) mU.1 (fun h a ha => by have := Rd.lt hl4 (by omega) a ha; omega)) ?_
        rintro e w5 ⟨rfl, g5, p5⟩
        have x5 : Ext w w5 := Below.trans xU (below_of_grown p5.1 xU.size (fun k hk => by cases hk; have := xY.size; omega))
        go_wp2_with fail
        go_ret
        exact ⟨rfl, x5⟩
      · subst h
        have hM2 : (M : Int) = R := by omega
        rw [hM2] at hfe2
        clear hmi hM2 hws
        apply wp_region_lex (R := Ext) (by kernel_rfl) (by kernel_rfl) Ext.refl (fun _ _ _ => Ext.trans) (Ext.drew _)
        repeat
          apply lex_ex Ext.refl
          · rfl
          · intro W' hR hΦ
            go_simp
            first | done | with_reducible rfl
          simp only [Act.put, List.setIfInBounds_toArray, List.set_cons_zero, List.set_cons_succ]
        refine lex_nil ?_
        intro W3 hR3 hΦ
        have f0 := hR3.cell f0
        have hl4 := hl3.ext hR3
        have g4 := g3.ext hR3
        have pb4 := pb3.ext hR3
        have xY := xX.trans hR3
        obtain ⟨q0, q1, q2, q3⟩ := id pb4
        have hsz : (gcs (two 0 1)).size = 32 := rfl
        have hfold := foldSet (two 0 1) rfl
        have ltp := pb4.lt
        have ltf := World.block_lt_of_cell? W3 _ f0
        clear hΦ hl3 g3 pb3 xX hR3
        go_wp2_with (with_reducible refine wpList_load_gm rfl 31 (.tmp 6) rfl rfl Try.underlying31 size_state g4 ?_)
        generalize hU : World.alloc W3 _ = U
        have eU : Ext W3 U := by subst hU; exact Ext.alloc _ _
        have mU : Mm U W3.heap.size (two 0 1) := by subst hU; have := Mm.new W3 39 (g := two 0 1) rfl rfl; simpa using this
        clear hU hfold hsz
        have xU := xY.trans eU
        refine Calls.mono (Hrun.out U W3.heap.size (hl4.ext eU) mU.1 (fun h a ha => by have := Rd.lt hl4 (by omega) a ha; omega)) ?_
        rintro e w5 ⟨rfl, g5, p5⟩
        have x5 : Ext w w5 := Below.trans xU (below_of_grown p5.1 xU.size (fun k hk => by cases hk; have := xY.size; omega))
        go_wp2_with fail
        go_ret
        exact ⟨rfl, x5⟩
      · have hx1 : (R < k) = False := eq_false (by omega)
        have hx2 : (k < R) = True := eq_true h
        have hx3 : (R ≤ k) = False := eq_false (by omega)
        have hx4 : (k ≤ R) = True := eq_true (by omega)
        have hM2 : (M : Int) = k := by omega
        rw [hM2] at hfe2
        clear h hmi hM2 hws
        apply wp_region_lex (R := Ext) (by kernel_rfl) (by kernel_rfl) Ext.refl (fun _ _ _ => Ext.trans) (Ext.drew _)
        repeat
          apply lex_ex Ext.refl
          · rfl
          · intro W' hR hΦ
            go_simp
            first | done | with_reducible rfl
          simp only [Act.put, List.setIfInBounds_toArray, List.set_cons_zero, List.set_cons_succ]
        refine lex_nil ?_
        intro W3 hR3 hΦ
        have f0 := hR3.cell f0
        have hl4 := hl3.ext hR3
        have g4 := g3.ext hR3
        have pb4 := pb3.ext hR3
        have xY := xX.trans hR3
        obtain ⟨q0, q1, q2, q3⟩ := id pb4
        have hsz : (gcs (two 0 1)).size = 32 := rfl
        have hfold := foldSet (two 0 1) rfl
        have ltp := pb4.lt
        have ltf := World.block_lt_of_cell? W3 _ f0
        clear hΦ hl3 g3 pb3 xX hR3
        go_wp2_with (with_reducible refine wpList_load_gm rfl 31 (.tmp 6) rfl rfl Try.underlying31 size_state g4 ?_)
        generalize hU : World.alloc W3 _ = U
        have eU : Ext W3 U := by subst hU; exact Ext.alloc _ _
        have mU : Mm U W3.heap.size (two 0 1) := by subst hU; have := Mm.new W3 39 (g := two 0 1) rfl rfl; simpa using this
        clear hU hfold hsz
        have xU := xY.trans eU
        refine Calls.mono (Hrun.out U W3.heap.size (hl4.ext eU) mU.1 (fun h a ha => by have := Rd.lt hl4 (by omega) a ha; omega)) ?_
        rintro e w5 ⟨rfl, g5, p5⟩
        have x5 : Ext w w5 := Below.trans xU (below_of_grown p5.1 xU.size (fun k hk => by cases hk; have := xY.size; omega))
        go_wp2_with fail
        go_ret
        exact ⟨rfl, x5⟩
end Go.Proofs.Ytiikipdghpnaeaa
