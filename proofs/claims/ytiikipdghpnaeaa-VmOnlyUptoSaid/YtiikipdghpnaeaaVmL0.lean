/- The walk of the law VmOnly. -/
import Derived.Test.YtiikipdghpnaeaaVmL6
namespace Go.Proofs.Ytiikipdghpnaeaa
open Go.RowKit
set_option linter.unusedVariables false

set_option maxRecDepth 100000 in
set_option maxHeartbeats 4000000 in
theorem only_walk (w : World) (t : List UInt8) (A : Option Addr) (n c : Nat) (l : List OpT) (ht : t.length ≤ 1048576) (hl : Ro w A n c l) (_hok : ∀ o ∈ l, okO o)
    (ZA : Option Addr) (zn zc : Nat) (zs : List Int) (hz : Ri w .i32 ZA zn zc zs) (frame : Int) (_hf0 : -9223372036854775808 ≤ frame) (_hf1 : frame ≤ 9223372036854775807)
    (PA : Option Addr) (pn pc : Nat) (pl : List UInt8) (hp : Rb w PA pn pc pl) :
    Calls Try.prog 11 #[pAgg t A n c, .slice ZA zn zc, .int .i64 frame, .slice PA pn pc] w (Yes w) := by
  have htl : t.length ≤ 1099511627776 := by omega
  obtain ⟨r, hr⟩ : ∃ r, faultL t l = r := ⟨_, rfl⟩
  have hrf := fun W h => rfault_any W t A n c l htl h
  rw [hr] at hrf
  have hpm := hp.max
  have hlm := hl.max
  unfold maxLen at hpm hlm
  unfold pAgg at hrf ⊢
  have Hrf := Lib.hid hrf
  have Hr := Lib.hid hr
  clear hrf hr ht _hok _hf0 _hf1
  by_cases hn : 80 < n
  · have hn8 : (80 : Int) < n := by omega
    go_enter Try.func11, Try.ntmps11
    go_wp2_with fail
    refine (begun9_any _).mono ?_
    rintro e w1 ⟨rfl, e1⟩
    have c1 := e1.cell (show (w.alloc (.cells #[.string (bs t), .slice A n c] 24)).cell? ⟨w.heap.size, 1, none⟩ = some (.slice A n c) by go_simp)
    have x1 := (Ext.alloc w _).trans e1
    have hd : decide (80 < n) = true := decide_eq_true hn
    go_wp2_with fail
    go_ret
    exact ⟨rfl, x1⟩
  have hd : decide (80 < n) = false := decide_eq_false hn
  have hn8 : (n : Int) ≤ 80 := by omega
  by_cases hf : r = -1
  · subst hf
    go_enter Try.func11, Try.ntmps11
    go_wp2_with fail
    refine (begun9_any _).mono ?_
    rintro e w1 ⟨rfl, e1⟩
    have c0 := e1.cell (show (w.alloc (.cells #[.string (bs t), .slice A n c] 24)).cell? ⟨w.heap.size, 0, none⟩ = some (.string (bs t)) by go_simp)
    have c1 := e1.cell (show (w.alloc (.cells #[.string (bs t), .slice A n c] 24)).cell? ⟨w.heap.size, 1, none⟩ = some (.slice A n c) by go_simp)
    have x1 := (Ext.alloc w _).trans e1
    go_wp2_with fail
    refine (Hrf.out _ (hl.ext x1)).mono ?_
    rintro e w2 ⟨rfl, e2⟩
    go_wp2_with fail
    go_ret
    exact ⟨rfl, x1.trans e2⟩
  have hfb : (r == -1) = false := by rw [beq_eq_false_iff_ne]; exact hf
  by_cases hpn : 20 < pn
  · have hd2 : decide (20 < pn) = true := decide_eq_true hpn
    have hp8 : (20 : Int) < pn := by omega
    clear hf
    go_enter Try.func11, Try.ntmps11
    go_wp2_with fail
    refine (begun9_any _).mono ?_
    rintro e w1 ⟨rfl, e1⟩
    have c0 := e1.cell (show (w.alloc (.cells #[.string (bs t), .slice A n c] 24)).cell? ⟨w.heap.size, 0, none⟩ = some (.string (bs t)) by go_simp)
    have c1 := e1.cell (show (w.alloc (.cells #[.string (bs t), .slice A n c] 24)).cell? ⟨w.heap.size, 1, none⟩ = some (.slice A n c) by go_simp)
    have x1 := (Ext.alloc w _).trans e1
    go_wp2_with fail
    refine (Hrf.out _ (hl.ext x1)).mono ?_
    rintro e w2 ⟨rfl, e2⟩
    go_wp2_with fail
    go_ret
    exact ⟨rfl, x1.trans e2⟩
  have hd2 : decide (20 < pn) = false := decide_eq_false hpn
  have hp8 : (pn : Int) ≤ 20 := by omega
  have hfl : faultL t l ≠ -1 := by rw [Hr.out]; exact hf
  have hzok : ∀ z ∈ zs, ok32 z := fun z h => bd_i32 (hz.2 z h)
  have hgok := ofL_ok hzok
  have hof := fun W h => of_any W ZA zn zc zs h
  have hzr := hz.1
  have hstn : (stepN t pl frame l (ofL zs)).1 = ofL zs := by unfold stepN; rw [if_neg hfl]
  have hst := fun W h1 h2 => step_any W t A n c l frame PA pn pc pl (ofL zs) htl h1 h2 hgok
  rw [hstn] at hst
  have hrun := fun W b h => run_no W b 37 t A n c l frame PA pn pc htl h hfl
  unfold pAgg at hst hrun
  have Hof := Lib.hid hof
  have Hst := Lib.hid hst
  have Hrun := Lib.hid hrun
  have Hgl := Lib.hid hgok.1
  clear hof hst hrun hz hzok hstn hfl hf hgok Hr
  generalize ofL zs = g at *
  go_enter Try.func11, Try.ntmps11
  go_wp2_with fail
  refine (begun9_any _).mono ?_
  rintro e w1 ⟨rfl, e1⟩
  have c0 := e1.cell (show (w.alloc (.cells #[.string (bs t), .slice A n c] 24)).cell? ⟨w.heap.size, 0, none⟩ = some (.string (bs t)) by go_simp)
  have c1 := e1.cell (show (w.alloc (.cells #[.string (bs t), .slice A n c] 24)).cell? ⟨w.heap.size, 1, none⟩ = some (.slice A n c) by go_simp)
  have x1 := (Ext.alloc w _).trans e1
  go_wp2_with fail
  refine (Hrf.out _ (hl.ext x1)).mono ?_
  rintro e w2 ⟨rfl, e2⟩
  have c0 := e2.cell c0
  have c1 := e2.cell c1
  have x2 := x1.trans e2
  clear e1 e2 Hrf
  go_wp2_with fail
  refine (Hof.out _ (hzr.ext x2)).mono ?_
  rintro e w4 ⟨rfl, e4⟩
  have c0 := e4.cell c0
  have c1 := e4.cell c1
  have x4 := x2.trans e4
  have s4 : w.heap.size < w4.heap.size := World.block_lt_of_cell? w4 _ c0
  have hsz : (gcs g).size = 32 := by rw [gcs_size]; exact Hgl.out
  have hfold := foldSet g Hgl.out
  clear e4 Hof x1 x2
  go_wp2_with (first
    | ((with_reducible refine wpList_put_new _ rfl 31 (.tmp 10) (.tmp 30) rfl rfl rfl Hgl.out size_state ?_); intro W5 b5 x5 s5; have c0 := x5.cell c0; have c1 := x5.cell c1; have xE := x4.trans x5; clear x5 s5)
    | (with_reducible refine wpList_load_gm rfl 31 (.tmp 10) rfl rfl Try.underlying31 size_state b5.gm ?_))
  generalize hV : World.alloc W5 _ = V
  have eV : Ext W5 V := by subst hV; exact Ext.alloc _ _
  have mV : Mm V W5.heap.size g := by subst hV; have := Mm.new W5 39 Hgl.out rfl; simpa using this
  clear hV hsz hfold
  have xV := xE.trans eV
  have d0 := eV.cell c0
  have d1 := eV.cell c1
  have bV := b5.ext eV
  have heq := fun W => eq_game W Hgl.out
  have hgu := guard_game
  apply wp_region_lex (R := Ext) (by kernel_rfl) (by kernel_rfl) Ext.refl (fun _ _ _ => Ext.trans) (Ext.drew _)
  repeat
    apply lex_ex Ext.refl
    · rfl
    · intro W' hR hΦ
      have d2 := hR.cell d0
      have d3 := hR.cell d1
      (go_simp; first | done | with_reducible rfl)
    simp only [Act.put, List.setIfInBounds_toArray, List.set_cons_zero, List.set_cons_succ]
  apply lex_callx
  · rfl
  · intro W'
    go_simp
    exact ⟨rfl, rfl⟩
  · intro W' hR hΦ
    exact (Hrun.out _ _ (hl.ext (xV.trans hR))).mono fun _ _ h => h
  simp only [Act.put, List.setIfInBounds_toArray, List.set_cons_zero, List.set_cons_succ]
  repeat
    apply lex_ex Ext.refl
    · rfl
    · intro W' hR hΦ
      have d2 := hR.cell d0
      have d3 := hR.cell d1
      first
        | exact exec_load_gm 31 _ rfl rfl Try.underlying31 size_state (bV.gm.ext hR)
        | exact exec_load_gm 31 _ rfl rfl Try.underlying31 size_state (mV.1.ext hR)
        | (go_simp; first | done | with_reducible rfl)
    simp only [Act.put, List.setIfInBounds_toArray, List.set_cons_zero, List.set_cons_succ]
  apply lex_callx
  · rfl
  · intro W'
    go_simp
    exact ⟨rfl, rfl⟩
  · intro W' hR hΦ
    exact (Hst.out _ (hl.ext (xV.trans hR)) (hp.ext (xV.trans hR))).mono fun _ _ h => h
  simp only [Act.put, List.setIfInBounds_toArray, List.set_cons_zero, List.set_cons_succ]
  repeat
    apply lex_ex Ext.refl
    · rfl
    · intro W' hR hΦ
      first
        | exact exec_load_gm 31 _ rfl rfl Try.underlying31 size_state (bV.gm.ext hR)
        | (go_simp; first | done | with_reducible rfl)
    simp only [Act.put, List.setIfInBounds_toArray, List.set_cons_zero, List.set_cons_succ]
  refine lex_nil ?_
  intro WZ hRZ hΦ
  clear hΦ
  go_wp2_with fail
  go_ret
  exact ⟨rfl, xV.trans hRZ⟩
end Go.Proofs.Ytiikipdghpnaeaa
