/- The walk of the law VmStep. -/
import Derived.Test.YtiikipdghpnaeaaVmL5
namespace Go.Proofs.Ytiikipdghpnaeaa
open Go.RowKit
set_option linter.unusedVariables false

set_option maxRecDepth 100000 in
set_option maxHeartbeats 4000000 in
theorem vmstep_walk (w : World) (t : List UInt8) (A : Option Addr) (n c : Nat) (l : List OpT) (ht : t.length ≤ maxLen) (hl : Ro w A n c l) (_hok : ∀ o ∈ l, okO o)
    (ZA : Option Addr) (zn zc : Nat) (zs : List Int) (hz : Ri w .i32 ZA zn zc zs) (frame : Int) (_hf0 : -9223372036854775808 ≤ frame) (_hf1 : frame ≤ 9223372036854775807)
    (PA : Option Addr) (pn pc : Nat) (pl : List UInt8) (hp : Rb w PA pn pc pl) :
    Calls Try.prog 3 #[pAgg t A n c, .slice ZA zn zc, .int .i64 frame, .slice PA pn pc] w (Yes w) := by
  have hcut := fun W => pcut_any W t A n c 64 ht hl.max
  have hl' := hl.min_ 64
  have htl : (t.take 40).length ≤ 1099511627776 := by rw [List.length_take]; omega
  have hsh := fun W => short_any PA pn pc 10 W hp.max
  have hp' : Rb w PA (min pn 10) pc (pl.take 10) := by
    have h := hp.take (Nat.min_le_left pn 10)
    have e : pl.take (min pn 10) = pl.take 10 := by rw [hp.len, List.take_eq_take_iff]; omega
    rwa [e] at h
  have hzok : ∀ z ∈ zs, ok32 z := fun z h => bd_i32 (hz.2 z h)
  have hgok := ofL_ok hzok
  have hof := fun W h => of_any W ZA zn zc zs h
  have hzr := hz.1
  unfold pAgg at hcut ⊢
  have Hcut := Lib.hid hcut
  have Hsh := Lib.hid hsh
  have Hof := Lib.hid hof
  clear hcut hsh hof hl hp ht hz hzok _hok _hf0 _hf1
  generalize t.take 40 = t' at *
  generalize l.take 64 = l' at *
  generalize min n 64 = n' at *
  generalize pl.take 10 = pl' at *
  generalize min pn 10 = pn' at *
  generalize ofL zs = g at *
  have hgl := hgok.1
  have Hgl := Lib.hid hgl
  have hGok := stepN_ok t' pl' frame l' hgok
  have hst := fun W h1 h2 => step_any W t' A n' c l' frame PA pn' pc pl' g htl h1 h2 hgok
  have hrs := fun W h1 h2 => rstep_any W t' A n' c l' frame PA pn' pc pl' g htl h1 h2 hgok rfl rfl
  have hrun := fun W b h1 h2 h3 h4 h5 => run_any W b 37 t' A n' c l' frame PA pn' pc pl' g (memI_mem b) htl h1 h2 h3 hgok h4 h5 rfl rfl
  unfold pAgg at hst hrs hrun
  have HG := Lib.hid hGok.1
  have Hst := Lib.hid hst
  have Hrs := Lib.hid hrs
  have Hrun := Lib.hid hrun
  clear hst hrs hrun hGok hgl
  generalize (stepN t' pl' frame l' g).1 = G at *
  generalize (stepN t' pl' frame l' g).2 = N at *
  go_enter Try.func3, Try.ntmps3
  go_wp2_with fail
  refine (begun9_any _).mono ?_
  rintro e w1 ⟨rfl, e1⟩
  have c0 := e1.cell (show (w.alloc (.cells #[.string (bs t), .slice A n c] 24)).cell? ⟨w.heap.size, 0, none⟩ = some (.string (bs t)) by go_simp)
  have c1 := e1.cell (show (w.alloc (.cells #[.string (bs t), .slice A n c] 24)).cell? ⟨w.heap.size, 1, none⟩ = some (.slice A n c) by go_simp)
  have f0 : w1.frozen? ⟨w.heap.size, 0, none⟩ = false := by rw [e1.frozen (by simp)]; go_simp
  have f1 : w1.frozen? ⟨w.heap.size, 1, none⟩ = false := by rw [e1.frozen (by simp)]; go_simp
  have x1 := (Ext.alloc w _).trans e1
  have s1 : w.heap.size < w1.heap.size := World.block_lt_of_cell? w1 _ c0
  clear e1
  go_wp2_with fail
  refine (Hcut.out _).mono ?_
  rintro e w2 ⟨rfl, e2⟩
  have c0 := e2.cell c0
  have c1 := e2.cell c1
  have f0 : w2.frozen? ⟨w.heap.size, 0, none⟩ = false := by rw [e2.frozen s1]; exact f0
  have f1 : w2.frozen? ⟨w.heap.size, 1, none⟩ = false := by rw [e2.frozen s1]; exact f1
  have x2 := x1.trans e2
  clear e2 s1 x1
  go_wp2_with fail
  refine (Hsh.out _).mono ?_
  rintro e w3 ⟨rfl, rfl⟩
  go_wp2_with fail
  generalize hW0 : World.setCell (World.setCell w2 _ _) _ _ = W0
  have x0 : Ext w W0 := by subst hW0; exact (x2.setCell (Nat.le_refl _) _).setCell (Nat.le_refl _) _
  have d0 : W0.cell? ⟨w.heap.size, 0, none⟩ = some (.string (bs t')) := by subst hW0; go_simp
  have d1 : W0.cell? ⟨w.heap.size, 1, none⟩ = some (.slice A n' c) := by subst hW0; go_simp
  clear hW0 c0 c1 f0 f1 x2 Hsh Hcut
  refine (Hof.out _ (hzr.ext x0)).mono ?_
  rintro e w4 ⟨rfl, e4⟩
  have d0 := e4.cell d0
  have d1 := e4.cell d1
  have x4 := x0.trans e4
  have s4 : w.heap.size < w4.heap.size := World.block_lt_of_cell? w4 _ d0
  clear e4 x0 Hof
  go_wp2_with (first
    | ((with_reducible refine wpList_put_new _ rfl 31 (.tmp 10) (.tmp 24) rfl rfl rfl Hgl.out size_state ?_); intro W5 b5 x5 s5; have d0 := x5.cell d0; have d1 := x5.cell d1; have xE := x4.trans x5; clear x5 s5)
    | (with_reducible refine wpList_load_gm rfl 31 (.tmp 10) rfl rfl Try.underlying31 size_state b5.gm ?_))
  refine (Hrs.out _ (hl'.ext xE) (hp'.ext xE)).mono ?_
  rintro e w6 ⟨rfl, e6⟩
  have d0 := e6.cell d0
  have d1 := e6.cell d1
  have b6 := b5.ext e6
  have xF := xE.trans e6
  clear e6 Hrs
  go_wp2_with (first
    | ((with_reducible refine wpList_put_new _ rfl 33 (.tmp 11) (.tmp 31) rfl rfl rfl HG.out size_game ?_); intro W7 b7 x7 s7; have d0 := x7.cell d0; have d1 := x7.cell d1; have b8 := b6.ext x7; have xG := xF.trans x7; clear x7 s7)
    | (with_reducible refine wpList_load_gm rfl 31 (.tmp 10) rfl rfl Try.underlying31 size_state b8.gm ?_))
  refine (Hst.out _ (hl'.ext xG) (hp'.ext xG)).mono ?_
  rintro e w8 ⟨rfl, e8⟩
  have d0 := e8.cell d0
  have d1 := e8.cell d1
  have b9 := b7.ext e8
  have b10 := b8.ext e8
  have xH := xG.trans e8
  clear e8 Hst
  have hsz : (gcs g).size = 32 := by rw [gcs_size]; exact Hgl.out
  have hfold := foldSet g Hgl.out
  go_wp2_with (first
    | ((with_reducible refine wpList_put_new _ rfl 31 (.tmp 13) (.tmp 37) rfl rfl rfl HG.out size_state ?_); intro W9 b11 x9 s9; have d0 := x9.cell d0; have d1 := x9.cell d1; have b12 := b9.ext x9; have b13 := b10.ext x9; have xI := xH.trans x9; have hlt9 := World.block_lt_of_cell? W9 _ d0; clear x9 s9)
    | (with_reducible refine wpList_load_gm rfl 31 (.tmp 10) rfl rfl Try.underlying31 size_state b13.gm ?_))
  clear hsz hfold
  generalize hV : World.alloc W9 _ = V
  have eV : Ext W9 V := by subst hV; exact Ext.alloc _ _
  have mV : Mm V W9.heap.size g := by subst hV; have := Mm.new W9 39 Hgl.out rfl; simpa using this
  clear hV
  have xV := xI.trans eV
  have hlt0 : w.heap.size < W9.heap.size := by omega
  refine Calls.mono (Hrun.out V W9.heap.size (hl'.ext xV) (hp'.ext xV) mV.1 (fun h a ha => by have := Rd.lt hl' (by omega) a ha; omega) (fun h a ha => by have := Rd.lt hp' (by omega) a ha; omega)) ?_
  rintro e wA ⟨rfl, gA, pA⟩
  have mA := mV.played gA pA
  have xA : Ext w wA := Below.trans xV (below_of_grown pA.1 xV.size (fun k hk => by cases hk; omega))
  have h11 : w8.heap.size ≠ W9.heap.size := by have := b11.lt; omega
  have h12 : w6.heap.size ≠ W9.heap.size := by have := b12.lt; omega
  have bA := (b11.ext eV).grown pA.1 (by simpa using h11.symm)
  have bB := (b12.ext eV).grown pA.1 (by simpa using h12.symm)
  have hbad := mA.2
  have heq := fun W => eq_game W HG.out
  have hgu := guard_game
  clear Hrun mV eV pA
  go_wp2_with fail
  apply wp_region_lex (R := Ext) (by kernel_rfl) (by kernel_rfl) Ext.refl (fun _ _ _ => Ext.trans) (Ext.drew _)
  repeat
    apply lex_ex Ext.refl
    · rfl
    · intro W' hR hΦ
      have d1 := hR.cell hbad
      first
        | exact exec_load_gm 31 _ rfl rfl Try.underlying31 size_state (bA.gm.ext hR)
        | exact exec_load_gm 31 _ rfl rfl Try.underlying31 size_state (gA.ext hR)
        | exact exec_load_gm 33 _ rfl rfl Try.underlying33 size_game (bB.gm.ext hR)
        | (go_simp; first | done | with_reducible rfl)
    simp only [Act.put, List.setIfInBounds_toArray, List.set_cons_zero, List.set_cons_succ]
  refine lex_nil ?_
  intro WZ hRZ hΦ
  clear hΦ
  go_wp2_with fail
  go_ret
  exact ⟨rfl, xA.trans hRZ⟩
end Go.Proofs.Ytiikipdghpnaeaa
