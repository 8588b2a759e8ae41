/- The walks of the laws VmTime, VmPress. -/
import Derived.Test.YtiikipdghpnaeaaVmL
namespace Go.Proofs.Ytiikipdghpnaeaa
open Go.RowKit
set_option linter.unusedVariables false

theorem step_single {t press : List UInt8} {frame : Int} {o : OpT} {g : List Int} (hf : faultL t [o] = -1) (h0 : o.1 ≠ 0) (hk : 1 ≤ (oneN t press frame g 0 o).2) : stepN t press frame [o] g = ((oneN t press frame g 0 o).1, 1) := by
  have e : stepN t press frame [o] g = runN t press frame [o] 200 0 g := if_pos hf
  rw [e, runN_go t press frame [o] 199 0 g (by simp) h0]
  rw [runN_end _ _ _ _ _ _ _ (by simpa using hk)]
  rfl
theorem getN_set {g : List Int} (hg : g.length = 32) {i : Int} (h0 : 0 ≤ i) (h1 : i ≤ 31) (v : Int) : getN (setN g i v) i = v := by
  unfold getN setN
  rw [List.getD_eq_getElem?_getD, List.getElem?_set_self (by omega)]; rfl
theorem getN_set_ne {g : List Int} {i j : Int} (h0 : 0 ≤ i) (h1 : 0 ≤ j) (h : i ≠ j) (v : Int) : getN (setN g i v) j = getN g j := by
  unfold getN setN
  rw [List.getD_eq_getElem?_getD, List.getElem?_set_ne (by omega), ← List.getD_eq_getElem?_getD]
theorem setN_len (g : List Int) (i v : Int) : (setN g i v).length = g.length := by simp [setN]
/-- A cell, by its number. -/
theorem Gm.cell_ {w : World} {b : Nat} {g : List Int} (h : Gm w b g) (j : Nat) (hj : j < 32) {v : Int} (hv : getN g (j : Nat) = v) : w.cell? ⟨b, j, none⟩ = some (.int .i32 v) := by
  rw [(h.2 j hj).1, ← hv]; rfl

theorem time_game (frame : Int) : (stepN [116, 105, 109, 101] [] frame [(15, 4, 0, 0)] zeroG).1 = setN zeroG 4 (w32 frame) := by
  rw [step_single (by decide +kernel) (by decide) (by simp [oneN])]
  simp [oneN, valN]

set_option maxRecDepth 100000 in
set_option maxHeartbeats 2000000 in
theorem time_walk (w : World) (a : Int) (_h0 : -9223372036854775808 ≤ a) (_h1 : a ≤ 9223372036854775807) : Calls Try.prog 12 #[.int .i64 a] w (Yes w) := by
  clear _h0 _h1
  go_enter Try.func12, Try.ntmps12
  go_wp2_with fail
  refine (begun9_any _).mono ?_
  rintro e w1 ⟨rfl, x1⟩
  go_wp2_with fail
  generalize hV : World.alloc (World.alloc w1 _) _ = V
  have eV : Ext w1 V := by subst hV; exact (Ext.alloc _ _).trans (Ext.alloc _ _)
  have lV : Ro V (some ⟨w1.heap.size, 0, none⟩) 1 1 [(15, 4, 0, 0)] := by subst hV; exact (ro_new rfl rfl rfl (by decide)).ext (Ext.alloc _ _)
  clear hV
  have hst := step_any V [116, 105, 109, 101] _ 1 1 [(15, 4, 0, 0)] a none 0 0 [] zeroG (by decide) lV (Rb.nil_ _) zeroG_ok
  rw [time_game] at hst
  unfold pAgg at hst
  have Hst := Lib.hid hst
  have Hg : Hid ((setN zeroG 4 (w32 a)).length = 32) := Lib.hid (by rw [setN_len]; rfl)
  have Hc : Hid (getN (setN zeroG 4 (w32 a)) ((4 : Nat) : Int) = w32 a) := Lib.hid (getN_set rfl (by decide) (by decide) _)
  clear hst
  generalize setN zeroG 4 (w32 a) = G at *
  refine Calls.mono Hst.out ?_
  rintro e w2 ⟨rfl, e2⟩
  go_wp2_with ((with_reducible refine wpList_put_new _ rfl 31 (.tmp 5) (.tmp 15) rfl rfl rfl Hg.out size_state ?_); intro W2 b2 x2 s2; have f4 := b2.gm.cell_ 4 (by decide) Hc.out; have xW := ((x1.trans eV).trans e2).trans x2; clear b2 x2 s2)
  apply wp_region_lex (R := Ext) (by kernel_rfl) (by kernel_rfl) Ext.refl (fun _ _ _ => Ext.trans) (Ext.drew _)
  repeat
    apply lex_ex Ext.refl
    · rfl
    · intro W' hR hΦ
      have d1 := hR.cell f4
      go_simp
      first | done | with_reducible rfl
    simp only [Act.put, List.setIfInBounds_toArray, List.set_cons_zero, List.set_cons_succ]
  apply lex_callx
  · rfl
  · intro W'
    go_simp
    exact ⟨rfl, rfl⟩
  · intro W' hR hΦ
    refine (round_is _ a).mono ?_
    rintro e w' ⟨rfl, rfl⟩
    exact ⟨rfl, Ext.refl _⟩
  simp only [Act.put, List.setIfInBounds_toArray, List.set_cons_zero, List.set_cons_succ]
  repeat
    apply lex_ex Ext.refl
    · rfl
    · intro W' hR hΦ
      have d1 := hR.cell f4
      go_simp
      first | done | with_reducible rfl
    simp only [Act.put, List.setIfInBounds_toArray, List.set_cons_zero, List.set_cons_succ]
  refine lex_nil ?_
  intro W3 hR3 hΦ
  clear hΦ
  go_wp2_with fail
  go_ret
  exact ⟨rfl, xW.trans hR3⟩
end Go.Proofs.Ytiikipdghpnaeaa
