/- The walks of the laws VmRunes, VmCells. -/
import Derived.Test.YtiikipdghpnaeaaVmL2
namespace Go.Proofs.Ytiikipdghpnaeaa
open Go.RowKit
set_option linter.unusedVariables false

theorem step_off {t press : List UInt8} {frame : Int} {l : List OpT} {g : List Int} (hf : faultL t l ≠ -1) : stepN t press frame l g = (g, 0) := if_neg hf
/-- A title's fault, where the operation may be. -/
theorem fault_title (t : List UInt8) : faultL t [(14, 1, 0, 0)] = if titleL t then -1 else -2 := by
  unfold faultL formL
  cases titleL t <;> decide
theorem runes_game (t : List UInt8) (at_ : Int) : (stepN t [] 0 [(14, 1, 0, 0)] (two at_ (-3))).1 = if titleL t then setN (two at_ (-3)) 1 (runeN t at_ : Nat) else two at_ (-3) := by
  have hf := fault_title t
  by_cases h : titleL t = true
  · rw [if_pos h] at hf
    rw [if_pos h, step_single hf (by decide) (by simp [oneN])]
    simp [oneN, valN, getN, two]
  · rw [if_neg h] at hf
    rw [if_neg h, step_off (by rw [hf]; decide)]

set_option maxRecDepth 100000 in
set_option maxHeartbeats 4000000 in
theorem vmrunes_walk (w : World) (l : List UInt8) (hl : l.length ≤ maxLen) (a : Int) (h0 : -2147483648 ≤ a) (h1 : a ≤ 2147483647) : Calls Try.prog 8 #[.string (bs l), .int .i32 a] w (Yes w) := by
  have hcut := fun W => cut_any l 60 W hl
  have Hcut := Lib.hid hcut
  have htl : (l.take 60).length ≤ 60 := by rw [List.length_take]; omega
  clear hcut hl
  generalize l.take 60 = t at *
  have hrt := fun W => rtitle_any W t (by omega)
  have hrr := fun W => runes_any W t (by omega)
  have Hrt := Lib.hid hrt
  have Hrr := Lib.hid hrr
  clear hrt hrr
  go_enter Try.func8, Try.ntmps8
  go_wp2_with fail
  refine (begun9_any _).mono ?_
  rintro e w1 ⟨rfl, x1⟩
  go_wp2_with fail
  refine (Hcut.out _).mono ?_
  rintro e w2 ⟨rfl, rfl⟩
  go_wp2_with ((with_reducible refine wpList_load_gm rfl 31 (.tmp 7) rfl rfl Try.underlying31 size_state (g := two a (-3)) ?hg ?_); case hg => exact (Blk.new' _ _ (g := two a (-3)) rfl (by simp)).gm)
  generalize hV : World.alloc (World.alloc (World.alloc w1 _) _) _ = V
  have eV : Ext w1 V := by subst hV; exact ((Ext.alloc _ _).trans (Ext.alloc _ _)).trans (Ext.alloc _ _)
  have lV : Ro V (some ⟨w1.heap.size, 0, none⟩) 1 1 [(14, 1, 0, 0)] := by subst hV; exact ((ro_new rfl rfl rfl (by decide)).ext (Ext.alloc _ _)).ext (Ext.alloc _ _)
  clear hV
  have hst := step_any V t _ 1 1 [(14, 1, 0, 0)] 0 none 0 0 [] (two a (-3)) (by omega) lV (Rb.nil_ _) (two_ok ⟨h0, h1⟩ (by simp [ok32]))
  rw [runes_game] at hst
  unfold pAgg at hst
  cases hT : titleL t
  · rw [hT] at hst Hrt
    have Hst := Lib.hid hst
    have Hg : Hid ((two a (-3)).length = 32) := Lib.hid rfl
    have Hc : Hid (getN (two a (-3)) ((1 : Nat) : Int) = -3) := Lib.hid rfl
    clear hst hT
    refine Calls.mono Hst.out ?_
    rintro e w3 ⟨rfl, e3⟩
    go_wp2_with ((with_reducible refine wpList_put_new _ rfl 31 (.tmp 8) (.tmp 26) rfl rfl rfl Hg.out size_state ?_); intro W2 b2 x2 s2; have f1 := b2.gm.cell_ 1 (by decide) Hc.out; have xW := (x1.trans (eV.trans e3)).trans x2; clear b2 x2 s2)
    refine (Hrr.out _).mono ?_
    rintro e w4 ⟨B, d, rfl, hB, e4⟩
    have f1 := e4.cell f1
    go_wp2_with fail
    refine (Hrt.out _).mono ?_
    rintro e w5 ⟨rfl, e5⟩
    have f1 := e5.cell f1
    go_wp2_with fail
    go_ret
    exact ⟨rfl, (xW.trans e4).trans e5⟩
  · rw [hT] at hst Hrt
    rw [if_pos rfl] at hst
    have Hst := Lib.hid hst
    have Hg : Hid ((setN (two a (-3)) 1 (runeN t a : Nat)).length = 32) := Lib.hid (by rw [setN_len]; rfl)
    have Hc : Hid (getN (setN (two a (-3)) 1 (runeN t a : Nat)) ((1 : Nat) : Int) = (runeN t a : Nat)) := Lib.hid (getN_set rfl (by decide) (by decide) _)
    clear hst hT
    generalize setN (two a (-3)) 1 (runeN t a : Nat) = G at *
    refine Calls.mono Hst.out ?_
    rintro e w3 ⟨rfl, e3⟩
    go_wp2_with ((with_reducible refine wpList_put_new _ rfl 31 (.tmp 8) (.tmp 26) rfl rfl rfl Hg.out size_state ?_); intro W2 b2 x2 s2; have f1 := b2.gm.cell_ 1 (by decide) Hc.out; have xW := (x1.trans (eV.trans e3)).trans x2; clear b2 x2 s2)
    refine (Hrr.out _).mono ?_
    rintro e w4 ⟨B, d, rfl, hB, e4⟩
    have f1 := e4.cell f1
    go_wp2_with fail
    refine (Hrt.out _).mono ?_
    rintro e w5 ⟨rfl, e5⟩
    have f1 := e5.cell f1
    have xE := (xW.trans e4).trans e5
    have hB5 := hB.ext e5
    by_cases hneg : a < 0
    · have hv : ((runeN t a : Nat) : Int) = 0 := by unfold runeN; rw [if_neg (by omega)]; rfl
      rw [hv] at f1
      have hd : decide (0 ≤ a) = false := decide_eq_false (by omega)
      clear hv
      go_wp2_with fail
      go_ret
      exact ⟨rfl, xE⟩
    obtain ⟨Y, rfl⟩ := Int.eq_ofNat_of_zero_le (show 0 ≤ a by omega)
    have hrl := rs_len t
    by_cases hn1 : Y < (rs t).length
    · obtain ⟨rb, ro, rfl, hrc⟩ := rune_at hB5 hn1
      have hv : ((runeN t (Y : Nat) : Nat) : Int) = ((rs t)[Y].1 : Nat) := by unfold runeN; rw [if_pos (by omega), Int.toNat_natCast, List.getElem?_eq_getElem hn1]; rfl
      rw [hv] at f1
      clear hv
      generalize (rs t)[Y].1 = rv at *
      have hd1 : decide (Y < (rs t).length) = true := decide_eq_true hn1
      go_wp2_with fail
      go_ret
      exact ⟨rfl, xE⟩
    · have hv : ((runeN t (Y : Nat) : Nat) : Int) = 0 := by unfold runeN; rw [if_pos (by omega), Int.toNat_natCast, List.getElem?_eq_none (by omega)]; rfl
      rw [hv] at f1
      have hd1 : decide (Y < (rs t).length) = false := decide_eq_false hn1
      clear hv
      go_wp2_with fail
      go_ret
      exact ⟨rfl, xE⟩
end Go.Proofs.Ytiikipdghpnaeaa
