/- The walk of the law VmCells. -/
import Derived.Test.YtiikipdghpnaeaaVmL4
namespace Go.Proofs.Ytiikipdghpnaeaa
open Go.RowKit
set_option linter.unusedVariables false

theorem eq_game (w : World) {G : List Int} (h : G.length = 32) : (Op.equalIn 10000 33 (.agg (gcs G)) (.agg (gcs G))).run Try.prog w = .ok true w := by
  rw [run_eq_games w 9998 33 21 32 Try.underlying33 Try.underlying21 (fun w => by kernel_rfl) G G h h]
  simp
theorem guard_game : Try.prog.eqGuardType Try.prog.depth 33 = false := by kernel_rfl

def celOps : List OpT := [(13, 0, 1, 0), (12, 2, 0, 0)]
def celT : List UInt8 := [99, 101, 108, 108, 115]
theorem cells_game (at_ v : Int) (h : 3 ≤ remN at_) : (stepN celT [] 0 celOps (two at_ v)).1 = setN (setN (two at_ v) (remN at_ : Nat) v) 2 v := by
  have hf : faultL celT celOps = -1 := by decide +kernel
  have e : stepN celT [] 0 celOps (two at_ v) = runN celT [] 0 celOps 200 0 (two at_ v) := if_pos hf
  have hr := remN_lt at_
  have g0 : getN (setN (two at_ v) (remN at_ : Nat) v) 0 = at_ := by rw [getN_set_ne (by omega) (by decide) (by omega)]; rfl
  have e1 : oneN celT [] 0 (two at_ v) 0 (13, 0, 1, 0) = (setN (two at_ v) (remN at_ : Nat) v, 1) := by simp [oneN, getN, two]
  have e2 : oneN celT [] 0 (setN (two at_ v) (remN at_ : Nat) v) 1 (12, 2, 0, 0) = (setN (setN (two at_ v) (remN at_ : Nat) v) 2 v, 2) := by
    have : valN celT [] 0 (setN (two at_ v) (remN at_ : Nat) v) (12, 2, 0, 0) = v := by
      simp only [valN]
      rw [if_neg (by decide), if_neg (by decide), if_neg (by decide), if_pos trivial, g0, getN_set rfl (by omega) (by omega)]
    simp [oneN, this]
  rw [e, runN_go celT [] 0 celOps 199 0 _ (by decide) (by decide)]
  show (runN celT [] 0 celOps 199 (oneN celT [] 0 (two at_ v) 0 (13, 0, 1, 0)).2 (oneN celT [] 0 (two at_ v) 0 (13, 0, 1, 0)).1).1 = _
  rw [e1, runN_go celT [] 0 celOps 198 1 _ (by decide) (by decide)]
  show (runN celT [] 0 celOps 198 (oneN celT [] 0 (setN (two at_ v) (remN at_ : Nat) v) 1 (12, 2, 0, 0)).2 (oneN celT [] 0 (setN (two at_ v) (remN at_ : Nat) v) 1 (12, 2, 0, 0)).1).1 = _
  rw [e2, runN_end _ _ _ _ _ _ _ (Nat.le_refl 2)]

set_option maxRecDepth 100000 in
set_option maxHeartbeats 4000000 in
theorem cells_walk (w : World) (a : Int) (ha0 : -2147483648 ≤ a) (ha1 : a ≤ 2147483647) (v : Int) (hv0 : -2147483648 ≤ v) (hv1 : v ≤ 2147483647) : Calls Try.prog 7 #[.int .i32 a, .int .i32 v] w (Yes w) := by
  have hok := two_ok (a := a) (b := v) ⟨ha0, ha1⟩ ⟨hv0, hv1⟩
  have hmod := fun W => rmod_is W a ⟨ha0, ha1⟩
  have hrl := remN_lt a
  have Hmod := Lib.hid hmod
  clear hmod
  go_enter Try.func7, Try.ntmps7
  go_wp2_with fail
  refine (begun9_any _).mono ?_
  rintro e w1 ⟨rfl, x1⟩
  go_wp2_with ((with_reducible refine wpList_load_gm rfl 31 (.tmp 7) rfl rfl Try.underlying31 size_state (g := two a v) ?hg ?_); case hg => exact (Blk.new' _ _ (g := two a v) rfl (by simp)).gm)
  generalize hV : World.alloc (World.alloc (World.alloc w1 _) _) _ = V
  have eV : Ext w1 V := by subst hV; exact ((Ext.alloc _ _).trans (Ext.alloc _ _)).trans (Ext.alloc _ _)
  have lV : Ro V (some ⟨w1.heap.size, 0, none⟩) 2 2 celOps := by subst hV; exact ((ro_new rfl rfl rfl (by decide)).ext (Ext.alloc _ _)).ext (Ext.alloc _ _)
  have gV : Gm V (w1.heap.size + 1 + 1) (two a v) := by subst hV; exact (Blk.new' _ _ (g := two a v) rfl (by simp)).gm
  have c0 : V.cell? ⟨w1.heap.size + 1, 0, none⟩ = some (.string { data := #[99, 101, 108, 108, 115] }) := by subst hV; go_simp
  have c1 : V.cell? ⟨w1.heap.size + 1, 1, none⟩ = some (.slice (some ⟨w1.heap.size, 0, none⟩) 2 2) := by subst hV; go_simp
  clear hV
  have hst := step_any V celT _ 2 2 celOps 0 none 0 0 [] (two a v) (by decide) lV (Rb.nil_ _) hok
  have hG := stepN_ok celT [] 0 celOps hok
  have hcel := cells_game a v
  have hrs := fun W h => rstep_any W celT (some ⟨w1.heap.size, 0, none⟩) 2 2 celOps 0 none 0 0 [] (two a v) (by decide) h (Rb.nil_ _) hok rfl rfl
  unfold pAgg at hst hrs
  have Hst := Lib.hid hst
  have Hrs := Lib.hid hrs
  have HG := Lib.hid hG.1
  have Hcel := Lib.hid hcel
  clear hst hG hcel hrs hok
  generalize (stepN celT [] 0 celOps (two a v)).1 = G at *
  generalize (stepN celT [] 0 celOps (two a v)).2 = N at *
  obtain ⟨r, hr⟩ : ∃ r, remN a = r := ⟨_, rfl⟩
  rw [hr] at Hmod hrl Hcel
  clear hr
  refine Calls.mono Hst.out ?_
  rintro e w2 ⟨rfl, e2⟩
  have lW := lV.ext e2
  have gW := gV.ext e2
  have c0 := e2.cell c0
  have c1 := e2.cell c1
  clear Hst lV gV
  have xW := x1.trans (eV.trans e2)
  have hw2 : w1.heap.size + 1 < w2.heap.size := World.block_lt_of_cell? w2 _ c0
  clear eV e2
  by_cases h3 : 3 ≤ r
  · have hGv := Hcel.out h3
    have h2 : ((r : Nat) : Int) ≠ 2 := by omega
    have q0 : getN G ((0 : Nat) : Int) = a := by rw [hGv, getN_set_ne (by decide) (by decide) (by decide), getN_set_ne (by omega) (by decide) (by omega)]; rfl
    have q1 : getN G ((1 : Nat) : Int) = v := by rw [hGv, getN_set_ne (by decide) (by decide) (by decide), getN_set_ne (by omega) (by decide) (by omega)]; rfl
    have q2 : getN G ((2 : Nat) : Int) = v := by rw [hGv]; exact getN_set (by rw [setN_len]; rfl) (by decide) (by decide) _
    have q3 : getN G (r : Nat) = v := by rw [hGv, getN_set_ne (by decide) (by omega) (by omega)]; exact getN_set rfl (by omega) (by omega) _
    have Q0 := Lib.hid q0
    have Q1 := Lib.hid q1
    have Q2 := Lib.hid q2
    have Q3 := Lib.hid q3
    have n0 : ((r : Int) == 0) = false := by rw [beq_eq_false_iff_ne]; omega
    have n1 : ((r : Int) == 1) = false := by rw [beq_eq_false_iff_ne]; omega
    have n2 : ((r : Int) == 2) = false := by rw [beq_eq_false_iff_ne]; omega
    have hr31 : (r : Int) < 32 := by omega
    clear q0 q1 q2 q3 hGv h2 Hrs Hcel
    go_wp2_with ((with_reducible refine wpList_put_new _ rfl 31 (.tmp 8) (.tmp 25) rfl rfl rfl HG.out size_state ?_); intro W2 b2 x2 s2; have f0 := b2.gm.cell_ 0 (by decide) Q0.out; have f1 := b2.gm.cell_ 1 (by decide) Q1.out; have f2 := b2.gm.cell_ 2 (by decide) Q2.out; have f3 := b2.gm.cell_ r hrl Q3.out; have xX := xW.trans x2; clear b2 x2 s2)
    refine (Hmod.out _).mono ?_
    rintro e w3 ⟨rfl, rfl⟩
    go_wp2_with fail
    go_ret
    exact ⟨rfl, xX⟩
  · have heq := fun W => eq_game W HG.out
    have hgu := guard_game
    have hcs : r = 0 ∨ r = 1 ∨ r = 2 := by omega
    clear h3 Hcel hrl
    go_wp2_with ((with_reducible refine wpList_put_new _ rfl 31 (.tmp 8) (.tmp 25) rfl rfl rfl HG.out size_state ?_); intro W2 b2 x2 s2; have lX := lW.ext x2; have gX := gW.ext x2; have c0 := x2.cell c0; have c1 := x2.cell c1; have xX := xW.trans x2; clear x2 s2)
    refine (Hmod.out _).mono ?_
    rintro e w3 ⟨rfl, rfl⟩
    rcases hcs with rfl | rfl | rfl
    all_goals
      go_wp2_with (with_reducible refine wpList_load_gm rfl 31 (.tmp 7) rfl rfl Try.underlying31 size_state gX ?_)
      refine (Hrs.out _ lX).mono ?_
      rintro e w4 ⟨rfl, e4⟩
      have b4 := b2.ext e4
      go_wp2_with (first
        | ((with_reducible refine wpList_put_new _ rfl 33 (.tmp 10) (.tmp 42) rfl rfl rfl HG.out size_game ?_); intro W5 b5 x5 s5; have b6 := b4.ext x5; have xZ := (xX.trans e4).trans x5; clear x5 s5)
        | (with_reducible refine wpList_load_gm rfl 31 (.tmp 8) rfl rfl Try.underlying31 size_state b6.gm ?_)
        | (with_reducible refine wpList_load_gm rfl 33 (.tmp 10) rfl rfl Try.underlying33 size_game b5.gm ?_))
      go_ret
      exact ⟨rfl, xZ⟩
end Go.Proofs.Ytiikipdghpnaeaa
