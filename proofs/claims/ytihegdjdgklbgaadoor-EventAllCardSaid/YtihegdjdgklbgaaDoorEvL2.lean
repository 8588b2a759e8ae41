/- The walk of the law EventAll. -/
import Derived.Test.YtihegdjdgklbgaaDoorEvB
import Derived.Test.YtihegdjdgklbgaaDoorRowF
namespace Go.Proofs.YtihegdjdgklbgaaDoor
set_option maxRecDepth 100000
open Go.RowKit
set_option linter.unusedVariables false

theorem fd_raw (a b c : Int) (W : World) : (Instr.field 23 (.agg #[.int .i64 a, .int .i64 b, .int .i64 c]) 0).run Tryd.prog W = .ok (.int .i64 a) W := by kernel_rfl
set_option maxRecDepth 100000 in
set_option maxHeartbeats 2000000 in
theorem all_no (w : World) (ht : Pow w) (k p f : Int) (h : mayE k p f = false) : Calls Tryd.prog 4 #[.agg #[.int .i64 k, .int .i64 p, .int .i64 f]] w (Yes w) := by
  have hbe := fun W h => begun12_any W h
  have hof := fun W => of_no W k p f h
  have hme := fun W => mayevent_any W k p f
  rw [h] at hme
  have Hbe := Lib.hid hbe
  have Hof := Lib.hid hof
  have Hme := Lib.hid hme
  clear hbe hof hme
  go_enter Tryd.func4, Tryd.ntmps4
  go_wp2_with fail
  generalize hV : World.alloc w _ = V
  have eV : Ext w V := by subst hV; exact Ext.alloc _ _
  have c0 : V.cell? ⟨w.heap.size, 0, none⟩ = some (.int .i64 k) := by subst hV; go_simp
  have c1 : V.cell? ⟨w.heap.size, 1, none⟩ = some (.int .i64 p) := by subst hV; go_simp
  have c2 : V.cell? ⟨w.heap.size, 2, none⟩ = some (.int .i64 f) := by subst hV; go_simp
  clear hV
  refine (Hbe.out V (pow_ext ht eV)).mono ?_
  rintro e w1 ⟨rfl, e1⟩
  have c0 := e1.cell c0
  have c1 := e1.cell c1
  have c2 := e1.cell c2
  have x1 := eV.trans e1
  go_wp2_with fail
  refine (Hof.out w1).mono ?_
  rintro e w2 ⟨rfl, e2⟩
  have c0 := e2.cell c0
  have c1 := e2.cell c1
  have c2 := e2.cell c2
  have x2 := x1.trans e2
  have s2 : w.heap.size < w2.heap.size := World.block_lt_of_cell? w2 _ c0
  go_wp2_with fail
  generalize hV : World.alloc w2 _ = V2
  have x3 : Ext w V2 := by subst hV; exact x2.trans (Ext.alloc _ _)
  have c0 : V2.cell? ⟨w.heap.size, 0, none⟩ = some (.int .i64 k) := by subst hV; exact (Ext.alloc _ _).cell c0
  have c1 : V2.cell? ⟨w.heap.size, 1, none⟩ = some (.int .i64 p) := by subst hV; exact (Ext.alloc _ _).cell c1
  have c2 : V2.cell? ⟨w.heap.size, 2, none⟩ = some (.int .i64 f) := by subst hV; exact (Ext.alloc _ _).cell c2
  have c3 : V2.cell? ⟨w2.heap.size, 0, none⟩ = some .nilIface := by subst hV; go_simp
  clear hV s2
  refine (Hme.out V2).mono ?_
  rintro e w3 ⟨rfl, e3⟩
  have c3 := e3.cell c3
  have x4 := x3.trans e3
  go_wp2_with fail
  refine (text_0 _).mono ?_
  rintro e w4 ⟨rfl, e4⟩
  have c3 := e4.cell c3
  have x5 := x4.trans e4
  go_wp2_with fail
  refine (raw_0 _).mono ?_
  rintro e w5 ⟨rfl, e5⟩
  have hfd := fd_raw 0 0 0
  go_wp2_with fail
  go_ret
  exact ⟨rfl, x5.trans e5⟩
set_option maxRecDepth 100000 in
set_option maxHeartbeats 4000000 in
theorem all_1 (w : World) (ht : Pow w) (p : Int) (p0 : 0 ≤ p) (p1 : p ≤ 7) : Calls Tryd.prog 4 #[.agg #[.int .i64 1, .int .i64 p, .int .i64 0]] w (Yes w) := by
  have hmay : mayE 1 p 0 = true := by simp [mayE]; omega
  have hbe := fun W h => begun12_any W h
  have hof := fun W => of_1 W p p0 p1
  have hme := fun W => mayevent_any W 1 p 0
  rw [hmay] at hme
  have hpl := fun W => player_1 W p
  have hra := fun W => raw_1 W p
  have heq := fun W => eqraw_any W 1 p 0 1 p 0
  have hfr := fun W => frame_1 W p
  have hmu := fun W => must_1 W p
  have hdp := fun W => decimal_any W p (by omega) (by omega)
  have htx := fun W h => text_1 W h p p0 p1
  have hlp := decL_small p0 (by omega : p ≤ 1000)
  have heb : (((1 : Int) == 1 && p == p && (0 : Int) == 0)) = true := by simp
  rw [heb] at heq
  unfold Num at hpl
  unfold RawIs at hra
  rw [show textL 1 p 0 = [113, 117, 105, 116, 32] ++ decL p from rfl] at htx
  have Hbe := Lib.hid hbe
  have Hof := Lib.hid hof
  have Hme := Lib.hid hme
  have Hpl := Lib.hid hpl
  have Hra := Lib.hid hra
  have Heq := Lib.hid heq
  have Hfr := Lib.hid hfr
  have Hmu := Lib.hid hmu
  have Hdp := Lib.hid hdp
  have Htx := Lib.hid htx
  clear hbe hof hme hpl hra heq hfr hmu hdp htx heb hmay
  generalize decL p = tp at *
  have hcat : ((9223372036854775807 : Nat) < 5 + tp.length) = False := eq_false (by omega)
  go_enter Tryd.func4, Tryd.ntmps4
  go_wp2_with fail
  generalize hV : World.alloc w _ = V
  have eV : Ext w V := by subst hV; exact Ext.alloc _ _
  have c0 : V.cell? ⟨w.heap.size, 0, none⟩ = some (.int .i64 1) := by subst hV; go_simp
  have c1 : V.cell? ⟨w.heap.size, 1, none⟩ = some (.int .i64 p) := by subst hV; go_simp
  have c2 : V.cell? ⟨w.heap.size, 2, none⟩ = some (.int .i64 0) := by subst hV; go_simp
  clear hV
  refine (Hbe.out V (pow_ext ht eV)).mono ?_
  rintro e w1 ⟨rfl, e1⟩
  have c0 := e1.cell c0
  have c1 := e1.cell c1
  have c2 := e1.cell c2
  have x1 := eV.trans e1
  go_wp2_with fail
  refine (Hof.out w1).mono ?_
  rintro e w2 ⟨rfl, e2⟩
  have c0 := e2.cell c0
  have c1 := e2.cell c1
  have c2 := e2.cell c2
  have x2 := x1.trans e2
  have s2 : w.heap.size < w2.heap.size := World.block_lt_of_cell? w2 _ c0
  go_wp2_with fail
  generalize hV : World.alloc w2 _ = V2
  have x3 : Ext w V2 := by subst hV; exact x2.trans (Ext.alloc _ _)
  have c0 : V2.cell? ⟨w.heap.size, 0, none⟩ = some (.int .i64 1) := by subst hV; exact (Ext.alloc _ _).cell c0
  have c1 : V2.cell? ⟨w.heap.size, 1, none⟩ = some (.int .i64 p) := by subst hV; exact (Ext.alloc _ _).cell c1
  have c2 : V2.cell? ⟨w.heap.size, 2, none⟩ = some (.int .i64 0) := by subst hV; exact (Ext.alloc _ _).cell c2
  have c3 : V2.cell? ⟨w2.heap.size, 0, none⟩ = some (.iface 44 (.agg #[.int .i64 p])) := by subst hV; go_simp
  clear hV s2
  refine (Hme.out V2).mono ?_
  rintro e w3 ⟨rfl, e3⟩
  have c0 := e3.cell c0
  have c1 := e3.cell c1
  have c2 := e3.cell c2
  have c3 := e3.cell c3
  have x4 := x3.trans e3
  go_wp2_with fail
  apply wp_region_lex (R := Ext) (by kernel_rfl) (by kernel_rfl) Ext.refl (fun _ _ _ => Ext.trans) (Ext.drew _)
  repeat
    apply lex_ex Ext.refl
    · rfl
    · intro W' hR hΦ
      have d0 := hR.cell c0
      have d1 := hR.cell c1
      have d2 := hR.cell c2
      have d3 := hR.cell c3
      go_simp
      first | done | with_reducible rfl
    simp only [Act.put, List.setIfInBounds_toArray, List.set_cons_zero, List.set_cons_succ]
  apply lex_callx
  · rfl
  · intro W'
    go_simp
    exact ⟨rfl, rfl⟩
  · intro W' hR hΦ
    exact (Hpl.out W').mono fun _ _ h => h
  simp only [Act.put, List.setIfInBounds_toArray, List.set_cons_zero, List.set_cons_succ]
  repeat
    apply lex_ex Ext.refl
    · rfl
    · intro W' hR hΦ
      have d0 := hR.cell c0
      have d1 := hR.cell c1
      have d2 := hR.cell c2
      have d3 := hR.cell c3
      go_simp
      first | done | with_reducible rfl
    simp only [Act.put, List.setIfInBounds_toArray, List.set_cons_zero, List.set_cons_succ]
  apply lex_callx
  · rfl
  · intro W'
    go_simp
    exact ⟨rfl, rfl⟩
  · intro W' hR hΦ
    exact (Hra.out W').mono fun _ _ h => h
  simp only [Act.put, List.setIfInBounds_toArray, List.set_cons_zero, List.set_cons_succ]
  repeat
    apply lex_ex Ext.refl
    · rfl
    · intro W' hR hΦ
      have d0 := hR.cell c0
      have d1 := hR.cell c1
      have d2 := hR.cell c2
      have d3 := hR.cell c3
      go_simp
      first | done | with_reducible rfl
    simp only [Act.put, List.setIfInBounds_toArray, List.set_cons_zero, List.set_cons_succ]
  apply lex_callx
  · rfl
  · intro W'
    go_simp
    exact ⟨rfl, rfl⟩
  · intro W' hR hΦ
    exact (Heq.out W').mono fun _ _ h => h
  simp only [Act.put, List.setIfInBounds_toArray, List.set_cons_zero, List.set_cons_succ]
  repeat
    apply lex_ex Ext.refl
    · rfl
    · intro W' hR hΦ
      have d0 := hR.cell c0
      have d1 := hR.cell c1
      have d2 := hR.cell c2
      have d3 := hR.cell c3
      go_simp
      first | done | with_reducible rfl
    simp only [Act.put, List.setIfInBounds_toArray, List.set_cons_zero, List.set_cons_succ]
  refine lex_nil ?_
  intro w5 e5 hΦ
  have c0 := e5.cell c0
  have c1 := e5.cell c1
  have c2 := e5.cell c2
  have c3 := e5.cell c3
  have x5 := x4.trans e5
  clear hΦ
  go_wp2_with fail
  refine (Hfr.out _).mono ?_
  rintro e w6 ⟨rfl, e6⟩
  have c0 := e6.cell c0
  have c1 := e6.cell c1
  have c2 := e6.cell c2
  have c3 := e6.cell c3
  have x6 := x5.trans e6
  go_wp2_with fail
  refine (Hmu.out _).mono ?_
  rintro e w7 ⟨rfl, e7⟩
  have c0 := e7.cell c0
  have c1 := e7.cell c1
  have c2 := e7.cell c2
  have c3 := e7.cell c3
  have x7 := x6.trans e7
  go_wp2_with fail
  apply wp_region_lex (R := Ext) (by kernel_rfl) (by kernel_rfl) Ext.refl (fun _ _ _ => Ext.trans) (Ext.drew _)
  apply lex_new (p := fun u W => ∃ g, u = .slice (some ⟨g, 0, none⟩) 4 4 ∧ W.cell? ⟨g, 1, none⟩ = some (.string (bs [113, 117, 105, 116, 32]))) (fun _ _ _ ⟨g, hv, h⟩ he => ⟨g, hv, he.cell h⟩)
  · rfl
  · intro W hR hΦ
    refine ⟨.slice (some ⟨W.heap.size, 0, none⟩) 4 4, W.alloc (.cells #[.string { data := #[] }, .string { data := #[113, 117, 105, 116, 32] }, .string { data := #[108, 97, 116, 101, 32] }, .string { data := #[97, 112, 97, 114, 116, 32] }] 9), ?_, Ext.alloc _ _, W.heap.size, rfl, by rw [cell_of_row _ _ _ _ _ _ (heap_alloc_new W _)]; rfl⟩
    go_simp
    first | done | rfl
  intro v1
  simp only [Act.put, List.setIfInBounds_toArray, List.set_cons_zero, List.set_cons_succ]
  repeat
    apply lex_ex Ext.refl
    · rfl
    · intro W' hR hΦ
      have d0 := hR.cell c0
      have d1 := hR.cell c1
      have d2 := hR.cell c2
      have d3 := hR.cell c3
      go_simp
      first | done | with_reducible rfl
    simp only [Act.put, List.setIfInBounds_toArray, List.set_cons_zero, List.set_cons_succ]
  apply lex_rel (p := fun u W => ∃ g, u = .pointer (some ⟨g, 1, none⟩) ∧ W.cell? ⟨g, 1, none⟩ = some (.string (bs [113, 117, 105, 116, 32]))) Ext.refl (fun _ _ _ ⟨g, hv, h⟩ he => ⟨g, hv, he.cell h⟩)
  · rfl
  · intro W hR hΦ
    obtain ⟨g, rfl, hg⟩ := hΦ.1 rfl
    refine ⟨.pointer (some ⟨g, 1, none⟩), ?_, g, rfl, hg⟩
    go_simp
    first | done | rfl
  intro v2
  simp only [Act.put, List.setIfInBounds_toArray, List.set_cons_zero, List.set_cons_succ]
  apply lex_ex (u := .string (bs [113, 117, 105, 116, 32])) Ext.refl
  · rfl
  · intro W hR hΦ
    obtain ⟨g, rfl, hg⟩ := hΦ.1 rfl
    go_simp
    first | done | rfl
  simp only [Act.put, List.setIfInBounds_toArray, List.set_cons_zero, List.set_cons_succ]
  repeat
    apply lex_ex Ext.refl
    · rfl
    · intro W' hR hΦ
      have d0 := hR.cell c0
      have d1 := hR.cell c1
      have d2 := hR.cell c2
      have d3 := hR.cell c3
      go_simp
      first | done | with_reducible rfl
    simp only [Act.put, List.setIfInBounds_toArray, List.set_cons_zero, List.set_cons_succ]
  apply lex_callx
  · rfl
  · intro W'
    go_simp
    exact ⟨rfl, rfl⟩
  · intro W' hR hΦ
    exact (Hdp.out W').mono fun _ _ h => h
  simp only [Act.put, List.setIfInBounds_toArray, List.set_cons_zero, List.set_cons_succ]
  repeat
    apply lex_ex Ext.refl
    · rfl
    · intro W' hR hΦ
      have d0 := hR.cell c0
      have d1 := hR.cell c1
      have d2 := hR.cell c2
      have d3 := hR.cell c3
      go_simp
      first | done | with_reducible rfl
    simp only [Act.put, List.setIfInBounds_toArray, List.set_cons_zero, List.set_cons_succ]
  refine lex_nil ?_
  intro w8 e8 hΦ
  have c0 := e8.cell c0
  have c1 := e8.cell c1
  have c2 := e8.cell c2
  have c3 := e8.cell c3
  have x8 := x7.trans e8
  clear hΦ
  go_wp2_with fail
  refine (Htx.out _ (pow_ext ht x8)).mono ?_
  rintro e wA ⟨rfl, eA⟩
  go_wp2_with fail
  go_ret
  exact ⟨by simp, x8.trans eA⟩
set_option maxRecDepth 100000 in
set_option maxHeartbeats 4000000 in
theorem all_2 (w : World) (ht : Pow w) (p : Int) (p0 : 0 ≤ p) (p1 : p ≤ 7) : Calls Tryd.prog 4 #[.agg #[.int .i64 2, .int .i64 p, .int .i64 0]] w (Yes w) := by
  have hmay : mayE 2 p 0 = true := by simp [mayE]; omega
  have hbe := fun W h => begun12_any W h
  have hof := fun W => of_2 W p p0 p1
  have hme := fun W => mayevent_any W 2 p 0
  rw [hmay] at hme
  have hpl := fun W => player_2 W p
  have hra := fun W => raw_2 W p
  have heq := fun W => eqraw_any W 2 p 0 2 p 0
  have hfr := fun W => frame_2 W p
  have hmu := fun W => must_2 W p
  have hdp := fun W => decimal_any W p (by omega) (by omega)
  have htx := fun W h => text_2 W h p p0 p1
  have hlp := decL_small p0 (by omega : p ≤ 1000)
  have heb : (((2 : Int) == 2 && p == p && (0 : Int) == 0)) = true := by simp
  rw [heb] at heq
  unfold Num at hpl
  unfold RawIs at hra
  rw [show textL 2 p 0 = [108, 97, 116, 101, 32] ++ decL p from rfl] at htx
  have Hbe := Lib.hid hbe
  have Hof := Lib.hid hof
  have Hme := Lib.hid hme
  have Hpl := Lib.hid hpl
  have Hra := Lib.hid hra
  have Heq := Lib.hid heq
  have Hfr := Lib.hid hfr
  have Hmu := Lib.hid hmu
  have Hdp := Lib.hid hdp
  have Htx := Lib.hid htx
  clear hbe hof hme hpl hra heq hfr hmu hdp htx heb hmay
  generalize decL p = tp at *
  have hcat : ((9223372036854775807 : Nat) < 5 + tp.length) = False := eq_false (by omega)
  go_enter Tryd.func4, Tryd.ntmps4
  go_wp2_with fail
  generalize hV : World.alloc w _ = V
  have eV : Ext w V := by subst hV; exact Ext.alloc _ _
  have c0 : V.cell? ⟨w.heap.size, 0, none⟩ = some (.int .i64 2) := by subst hV; go_simp
  have c1 : V.cell? ⟨w.heap.size, 1, none⟩ = some (.int .i64 p) := by subst hV; go_simp
  have c2 : V.cell? ⟨w.heap.size, 2, none⟩ = some (.int .i64 0) := by subst hV; go_simp
  clear hV
  refine (Hbe.out V (pow_ext ht eV)).mono ?_
  rintro e w1 ⟨rfl, e1⟩
  have c0 := e1.cell c0
  have c1 := e1.cell c1
  have c2 := e1.cell c2
  have x1 := eV.trans e1
  go_wp2_with fail
  refine (Hof.out w1).mono ?_
  rintro e w2 ⟨rfl, e2⟩
  have c0 := e2.cell c0
  have c1 := e2.cell c1
  have c2 := e2.cell c2
  have x2 := x1.trans e2
  have s2 : w.heap.size < w2.heap.size := World.block_lt_of_cell? w2 _ c0
  go_wp2_with fail
  generalize hV : World.alloc w2 _ = V2
  have x3 : Ext w V2 := by subst hV; exact x2.trans (Ext.alloc _ _)
  have c0 : V2.cell? ⟨w.heap.size, 0, none⟩ = some (.int .i64 2) := by subst hV; exact (Ext.alloc _ _).cell c0
  have c1 : V2.cell? ⟨w.heap.size, 1, none⟩ = some (.int .i64 p) := by subst hV; exact (Ext.alloc _ _).cell c1
  have c2 : V2.cell? ⟨w.heap.size, 2, none⟩ = some (.int .i64 0) := by subst hV; exact (Ext.alloc _ _).cell c2
  have c3 : V2.cell? ⟨w2.heap.size, 0, none⟩ = some (.iface 45 (.agg #[.int .i64 p])) := by subst hV; go_simp
  clear hV s2
  refine (Hme.out V2).mono ?_
  rintro e w3 ⟨rfl, e3⟩
  have c0 := e3.cell c0
  have c1 := e3.cell c1
  have c2 := e3.cell c2
  have c3 := e3.cell c3
  have x4 := x3.trans e3
  go_wp2_with fail
  apply wp_region_lex (R := Ext) (by kernel_rfl) (by kernel_rfl) Ext.refl (fun _ _ _ => Ext.trans) (Ext.drew _)
  repeat
    apply lex_ex Ext.refl
    · rfl
    · intro W' hR hΦ
      have d0 := hR.cell c0
      have d1 := hR.cell c1
      have d2 := hR.cell c2
      have d3 := hR.cell c3
      go_simp
      first | done | with_reducible rfl
    simp only [Act.put, List.setIfInBounds_toArray, List.set_cons_zero, List.set_cons_succ]
  apply lex_callx
  · rfl
  · intro W'
    go_simp
    exact ⟨rfl, rfl⟩
  · intro W' hR hΦ
    exact (Hpl.out W').mono fun _ _ h => h
  simp only [Act.put, List.setIfInBounds_toArray, List.set_cons_zero, List.set_cons_succ]
  repeat
    apply lex_ex Ext.refl
    · rfl
    · intro W' hR hΦ
      have d0 := hR.cell c0
      have d1 := hR.cell c1
      have d2 := hR.cell c2
      have d3 := hR.cell c3
      go_simp
      first | done | with_reducible rfl
    simp only [Act.put, List.setIfInBounds_toArray, List.set_cons_zero, List.set_cons_succ]
  apply lex_callx
  · rfl
  · intro W'
    go_simp
    exact ⟨rfl, rfl⟩
  · intro W' hR hΦ
    exact (Hra.out W').mono fun _ _ h => h
  simp only [Act.put, List.setIfInBounds_toArray, List.set_cons_zero, List.set_cons_succ]
  repeat
    apply lex_ex Ext.refl
    · rfl
    · intro W' hR hΦ
      have d0 := hR.cell c0
      have d1 := hR.cell c1
      have d2 := hR.cell c2
      have d3 := hR.cell c3
      go_simp
      first | done | with_reducible rfl
    simp only [Act.put, List.setIfInBounds_toArray, List.set_cons_zero, List.set_cons_succ]
  apply lex_callx
  · rfl
  · intro W'
    go_simp
    exact ⟨rfl, rfl⟩
  · intro W' hR hΦ
    exact (Heq.out W').mono fun _ _ h => h
  simp only [Act.put, List.setIfInBounds_toArray, List.set_cons_zero, List.set_cons_succ]
  repeat
    apply lex_ex Ext.refl
    · rfl
    · intro W' hR hΦ
      have d0 := hR.cell c0
      have d1 := hR.cell c1
      have d2 := hR.cell c2
      have d3 := hR.cell c3
      go_simp
      first | done | with_reducible rfl
    simp only [Act.put, List.setIfInBounds_toArray, List.set_cons_zero, List.set_cons_succ]
  refine lex_nil ?_
  intro w5 e5 hΦ
  have c0 := e5.cell c0
  have c1 := e5.cell c1
  have c2 := e5.cell c2
  have c3 := e5.cell c3
  have x5 := x4.trans e5
  clear hΦ
  go_wp2_with fail
  refine (Hfr.out _).mono ?_
  rintro e w6 ⟨rfl, e6⟩
  have c0 := e6.cell c0
  have c1 := e6.cell c1
  have c2 := e6.cell c2
  have c3 := e6.cell c3
  have x6 := x5.trans e6
  go_wp2_with fail
  refine (Hmu.out _).mono ?_
  rintro e w7 ⟨rfl, e7⟩
  have c0 := e7.cell c0
  have c1 := e7.cell c1
  have c2 := e7.cell c2
  have c3 := e7.cell c3
  have x7 := x6.trans e7
  go_wp2_with fail
  apply wp_region_lex (R := Ext) (by kernel_rfl) (by kernel_rfl) Ext.refl (fun _ _ _ => Ext.trans) (Ext.drew _)
  apply lex_new (p := fun u W => ∃ g, u = .slice (some ⟨g, 0, none⟩) 4 4 ∧ W.cell? ⟨g, 2, none⟩ = some (.string (bs [108, 97, 116, 101, 32]))) (fun _ _ _ ⟨g, hv, h⟩ he => ⟨g, hv, he.cell h⟩)
  · rfl
  · intro W hR hΦ
    refine ⟨.slice (some ⟨W.heap.size, 0, none⟩) 4 4, W.alloc (.cells #[.string { data := #[] }, .string { data := #[113, 117, 105, 116, 32] }, .string { data := #[108, 97, 116, 101, 32] }, .string { data := #[97, 112, 97, 114, 116, 32] }] 9), ?_, Ext.alloc _ _, W.heap.size, rfl, by rw [cell_of_row _ _ _ _ _ _ (heap_alloc_new W _)]; rfl⟩
    go_simp
    first | done | rfl
  intro v1
  simp only [Act.put, List.setIfInBounds_toArray, List.set_cons_zero, List.set_cons_succ]
  repeat
    apply lex_ex Ext.refl
    · rfl
    · intro W' hR hΦ
      have d0 := hR.cell c0
      have d1 := hR.cell c1
      have d2 := hR.cell c2
      have d3 := hR.cell c3
      go_simp
      first | done | with_reducible rfl
    simp only [Act.put, List.setIfInBounds_toArray, List.set_cons_zero, List.set_cons_succ]
  apply lex_rel (p := fun u W => ∃ g, u = .pointer (some ⟨g, 2, none⟩) ∧ W.cell? ⟨g, 2, none⟩ = some (.string (bs [108, 97, 116, 101, 32]))) Ext.refl (fun _ _ _ ⟨g, hv, h⟩ he => ⟨g, hv, he.cell h⟩)
  · rfl
  · intro W hR hΦ
    obtain ⟨g, rfl, hg⟩ := hΦ.1 rfl
    refine ⟨.pointer (some ⟨g, 2, none⟩), ?_, g, rfl, hg⟩
    go_simp
    first | done | rfl
  intro v2
  simp only [Act.put, List.setIfInBounds_toArray, List.set_cons_zero, List.set_cons_succ]
  apply lex_ex (u := .string (bs [108, 97, 116, 101, 32])) Ext.refl
  · rfl
  · intro W hR hΦ
    obtain ⟨g, rfl, hg⟩ := hΦ.1 rfl
    go_simp
    first | done | rfl
  simp only [Act.put, List.setIfInBounds_toArray, List.set_cons_zero, List.set_cons_succ]
  repeat
    apply lex_ex Ext.refl
    · rfl
    · intro W' hR hΦ
      have d0 := hR.cell c0
      have d1 := hR.cell c1
      have d2 := hR.cell c2
      have d3 := hR.cell c3
      go_simp
      first | done | with_reducible rfl
    simp only [Act.put, List.setIfInBounds_toArray, List.set_cons_zero, List.set_cons_succ]
  apply lex_callx
  · rfl
  · intro W'
    go_simp
    exact ⟨rfl, rfl⟩
  · intro W' hR hΦ
    exact (Hdp.out W').mono fun _ _ h => h
  simp only [Act.put, List.setIfInBounds_toArray, List.set_cons_zero, List.set_cons_succ]
  repeat
    apply lex_ex Ext.refl
    · rfl
    · intro W' hR hΦ
      have d0 := hR.cell c0
      have d1 := hR.cell c1
      have d2 := hR.cell c2
      have d3 := hR.cell c3
      go_simp
      first | done | with_reducible rfl
    simp only [Act.put, List.setIfInBounds_toArray, List.set_cons_zero, List.set_cons_succ]
  refine lex_nil ?_
  intro w8 e8 hΦ
  have c0 := e8.cell c0
  have c1 := e8.cell c1
  have c2 := e8.cell c2
  have c3 := e8.cell c3
  have x8 := x7.trans e8
  clear hΦ
  go_wp2_with fail
  refine (Htx.out _ (pow_ext ht x8)).mono ?_
  rintro e wA ⟨rfl, eA⟩
  go_wp2_with fail
  go_ret
  exact ⟨by simp, x8.trans eA⟩
set_option maxRecDepth 100000 in
set_option maxHeartbeats 4000000 in
theorem all_3 (w : World) (ht : Pow w) (p : Int) (p0 : 0 ≤ p) (p1 : p ≤ 7) (f : Int) (f0 : 0 ≤ f) (f1 : f ≤ 1000) : Calls Tryd.prog 4 #[.agg #[.int .i64 3, .int .i64 p, .int .i64 f]] w (Yes w) := by
  have hmay : mayE 3 p f = true := by simp [mayE]; omega
  have hbe := fun W h => begun12_any W h
  have hof := fun W => of_3 W p f p0 p1 f0 f1
  have hme := fun W => mayevent_any W 3 p f
  rw [hmay] at hme
  have hpl := fun W => player_3 W p f
  have hra := fun W => raw_3 W p f
  have heq := fun W => eqraw_any W 3 p f 3 p f
  have hfr := fun W => frame_3 W p f
  have hmu := fun W => must_3 W p f
  have hdp := fun W => decimal_any W p (by omega) (by omega)
  have htx := fun W h => text_3 W h p f p0 p1 f0 f1
  have hlp := decL_small p0 (by omega : p ≤ 1000)
  have hdf := fun W => decimal_any W f (by omega) (by omega)
  have hlf := decL_small f0 f1
  have heb : (((3 : Int) == 3 && p == p && (f : Int) == f)) = true := by simp
  rw [heb] at heq
  unfold Num at hpl
  unfold RawIs at hra
  rw [show textL 3 p f = [97, 112, 97, 114, 116, 32] ++ decL p ++ [32] ++ decL f from rfl] at htx
  have Hbe := Lib.hid hbe
  have Hof := Lib.hid hof
  have Hme := Lib.hid hme
  have Hpl := Lib.hid hpl
  have Hra := Lib.hid hra
  have Heq := Lib.hid heq
  have Hfr := Lib.hid hfr
  have Hmu := Lib.hid hmu
  have Hdp := Lib.hid hdp
  have Htx := Lib.hid htx
  have Hdf := Lib.hid hdf
  clear hbe hof hme hpl hra heq hfr hmu hdp htx heb hmay hdf
  generalize decL p = tp at *
  generalize decL f = tf at *
  have hcat : ((9223372036854775807 : Nat) < 6 + tp.length) = False := eq_false (by omega)
  have hcat2 : ((9223372036854775807 : Nat) < 1 + tf.length) = False := eq_false (by omega)
  have hcat3 : ((9223372036854775807 : Nat) < 6 + tp.length + (1 + tf.length)) = False := eq_false (by omega)
  go_enter Tryd.func4, Tryd.ntmps4
  go_wp2_with fail
  generalize hV : World.alloc w _ = V
  have eV : Ext w V := by subst hV; exact Ext.alloc _ _
  have c0 : V.cell? ⟨w.heap.size, 0, none⟩ = some (.int .i64 3) := by subst hV; go_simp
  have c1 : V.cell? ⟨w.heap.size, 1, none⟩ = some (.int .i64 p) := by subst hV; go_simp
  have c2 : V.cell? ⟨w.heap.size, 2, none⟩ = some (.int .i64 f) := by subst hV; go_simp
  clear hV
  refine (Hbe.out V (pow_ext ht eV)).mono ?_
  rintro e w1 ⟨rfl, e1⟩
  have c0 := e1.cell c0
  have c1 := e1.cell c1
  have c2 := e1.cell c2
  have x1 := eV.trans e1
  go_wp2_with fail
  refine (Hof.out w1).mono ?_
  rintro e w2 ⟨rfl, e2⟩
  have c0 := e2.cell c0
  have c1 := e2.cell c1
  have c2 := e2.cell c2
  have x2 := x1.trans e2
  have s2 : w.heap.size < w2.heap.size := World.block_lt_of_cell? w2 _ c0
  go_wp2_with fail
  generalize hV : World.alloc w2 _ = V2
  have x3 : Ext w V2 := by subst hV; exact x2.trans (Ext.alloc _ _)
  have c0 : V2.cell? ⟨w.heap.size, 0, none⟩ = some (.int .i64 3) := by subst hV; exact (Ext.alloc _ _).cell c0
  have c1 : V2.cell? ⟨w.heap.size, 1, none⟩ = some (.int .i64 p) := by subst hV; exact (Ext.alloc _ _).cell c1
  have c2 : V2.cell? ⟨w.heap.size, 2, none⟩ = some (.int .i64 f) := by subst hV; exact (Ext.alloc _ _).cell c2
  have c3 : V2.cell? ⟨w2.heap.size, 0, none⟩ = some (.iface 47 (.agg #[.int .i64 p, .int .i64 f])) := by subst hV; go_simp
  clear hV s2
  refine (Hme.out V2).mono ?_
  rintro e w3 ⟨rfl, e3⟩
  have c0 := e3.cell c0
  have c1 := e3.cell c1
  have c2 := e3.cell c2
  have c3 := e3.cell c3
  have x4 := x3.trans e3
  go_wp2_with fail
  apply wp_region_lex (R := Ext) (by kernel_rfl) (by kernel_rfl) Ext.refl (fun _ _ _ => Ext.trans) (Ext.drew _)
  repeat
    apply lex_ex Ext.refl
    · rfl
    · intro W' hR hΦ
      have d0 := hR.cell c0
      have d1 := hR.cell c1
      have d2 := hR.cell c2
      have d3 := hR.cell c3
      go_simp
      first | done | with_reducible rfl
    simp only [Act.put, List.setIfInBounds_toArray, List.set_cons_zero, List.set_cons_succ]
  apply lex_callx
  · rfl
  · intro W'
    go_simp
    exact ⟨rfl, rfl⟩
  · intro W' hR hΦ
    exact (Hpl.out W').mono fun _ _ h => h
  simp only [Act.put, List.setIfInBounds_toArray, List.set_cons_zero, List.set_cons_succ]
  repeat
    apply lex_ex Ext.refl
    · rfl
    · intro W' hR hΦ
      have d0 := hR.cell c0
      have d1 := hR.cell c1
      have d2 := hR.cell c2
      have d3 := hR.cell c3
      go_simp
      first | done | with_reducible rfl
    simp only [Act.put, List.setIfInBounds_toArray, List.set_cons_zero, List.set_cons_succ]
  apply lex_callx
  · rfl
  · intro W'
    go_simp
    exact ⟨rfl, rfl⟩
  · intro W' hR hΦ
    exact (Hra.out W').mono fun _ _ h => h
  simp only [Act.put, List.setIfInBounds_toArray, List.set_cons_zero, List.set_cons_succ]
  repeat
    apply lex_ex Ext.refl
    · rfl
    · intro W' hR hΦ
      have d0 := hR.cell c0
      have d1 := hR.cell c1
      have d2 := hR.cell c2
      have d3 := hR.cell c3
      go_simp
      first | done | with_reducible rfl
    simp only [Act.put, List.setIfInBounds_toArray, List.set_cons_zero, List.set_cons_succ]
  apply lex_callx
  · rfl
  · intro W'
    go_simp
    exact ⟨rfl, rfl⟩
  · intro W' hR hΦ
    exact (Heq.out W').mono fun _ _ h => h
  simp only [Act.put, List.setIfInBounds_toArray, List.set_cons_zero, List.set_cons_succ]
  repeat
    apply lex_ex Ext.refl
    · rfl
    · intro W' hR hΦ
      have d0 := hR.cell c0
      have d1 := hR.cell c1
      have d2 := hR.cell c2
      have d3 := hR.cell c3
      go_simp
      first | done | with_reducible rfl
    simp only [Act.put, List.setIfInBounds_toArray, List.set_cons_zero, List.set_cons_succ]
  refine lex_nil ?_
  intro w5 e5 hΦ
  have c0 := e5.cell c0
  have c1 := e5.cell c1
  have c2 := e5.cell c2
  have c3 := e5.cell c3
  have x5 := x4.trans e5
  clear hΦ
  go_wp2_with fail
  refine (Hfr.out _).mono ?_
  rintro e w6 ⟨rfl, e6⟩
  have c0 := e6.cell c0
  have c1 := e6.cell c1
  have c2 := e6.cell c2
  have c3 := e6.cell c3
  have x6 := x5.trans e6
  go_wp2_with fail
  refine (Hmu.out _).mono ?_
  rintro e w7 ⟨rfl, e7⟩
  have c0 := e7.cell c0
  have c1 := e7.cell c1
  have c2 := e7.cell c2
  have c3 := e7.cell c3
  have x7 := x6.trans e7
  go_wp2_with fail
  apply wp_region_lex (R := Ext) (by kernel_rfl) (by kernel_rfl) Ext.refl (fun _ _ _ => Ext.trans) (Ext.drew _)
  apply lex_new (p := fun u W => ∃ g, u = .slice (some ⟨g, 0, none⟩) 4 4 ∧ W.cell? ⟨g, 3, none⟩ = some (.string (bs [97, 112, 97, 114, 116, 32]))) (fun _ _ _ ⟨g, hv, h⟩ he => ⟨g, hv, he.cell h⟩)
  · rfl
  · intro W hR hΦ
    refine ⟨.slice (some ⟨W.heap.size, 0, none⟩) 4 4, W.alloc (.cells #[.string { data := #[] }, .string { data := #[113, 117, 105, 116, 32] }, .string { data := #[108, 97, 116, 101, 32] }, .string { data := #[97, 112, 97, 114, 116, 32] }] 9), ?_, Ext.alloc _ _, W.heap.size, rfl, by rw [cell_of_row _ _ _ _ _ _ (heap_alloc_new W _)]; rfl⟩
    go_simp
    first | done | rfl
  intro v1
  simp only [Act.put, List.setIfInBounds_toArray, List.set_cons_zero, List.set_cons_succ]
  repeat
    apply lex_ex Ext.refl
    · rfl
    · intro W' hR hΦ
      have d0 := hR.cell c0
      have d1 := hR.cell c1
      have d2 := hR.cell c2
      have d3 := hR.cell c3
      go_simp
      first | done | with_reducible rfl
    simp only [Act.put, List.setIfInBounds_toArray, List.set_cons_zero, List.set_cons_succ]
  apply lex_rel (p := fun u W => ∃ g, u = .pointer (some ⟨g, 3, none⟩) ∧ W.cell? ⟨g, 3, none⟩ = some (.string (bs [97, 112, 97, 114, 116, 32]))) Ext.refl (fun _ _ _ ⟨g, hv, h⟩ he => ⟨g, hv, he.cell h⟩)
  · rfl
  · intro W hR hΦ
    obtain ⟨g, rfl, hg⟩ := hΦ.1 rfl
    refine ⟨.pointer (some ⟨g, 3, none⟩), ?_, g, rfl, hg⟩
    go_simp
    first | done | rfl
  intro v2
  simp only [Act.put, List.setIfInBounds_toArray, List.set_cons_zero, List.set_cons_succ]
  apply lex_ex (u := .string (bs [97, 112, 97, 114, 116, 32])) Ext.refl
  · rfl
  · intro W hR hΦ
    obtain ⟨g, rfl, hg⟩ := hΦ.1 rfl
    go_simp
    first | done | rfl
  simp only [Act.put, List.setIfInBounds_toArray, List.set_cons_zero, List.set_cons_succ]
  repeat
    apply lex_ex Ext.refl
    · rfl
    · intro W' hR hΦ
      have d0 := hR.cell c0
      have d1 := hR.cell c1
      have d2 := hR.cell c2
      have d3 := hR.cell c3
      go_simp
      first | done | with_reducible rfl
    simp only [Act.put, List.setIfInBounds_toArray, List.set_cons_zero, List.set_cons_succ]
  apply lex_callx
  · rfl
  · intro W'
    go_simp
    exact ⟨rfl, rfl⟩
  · intro W' hR hΦ
    exact (Hdp.out W').mono fun _ _ h => h
  simp only [Act.put, List.setIfInBounds_toArray, List.set_cons_zero, List.set_cons_succ]
  repeat
    apply lex_ex Ext.refl
    · rfl
    · intro W' hR hΦ
      have d0 := hR.cell c0
      have d1 := hR.cell c1
      have d2 := hR.cell c2
      have d3 := hR.cell c3
      go_simp
      first | done | with_reducible rfl
    simp only [Act.put, List.setIfInBounds_toArray, List.set_cons_zero, List.set_cons_succ]
  refine lex_nil ?_
  intro w8 e8 hΦ
  have c0 := e8.cell c0
  have c1 := e8.cell c1
  have c2 := e8.cell c2
  have c3 := e8.cell c3
  have x8 := x7.trans e8
  clear hΦ
  go_wp2_with fail
  refine (Hdf.out _).mono ?_
  rintro e w9 ⟨rfl, e9⟩
  have c2 := e9.cell c2
  have c3 := e9.cell c3
  have x9 := x8.trans e9
  have z1 : ∀ z, ({ data := #[32] } : ByteArray) ++ bs z = bs (32 :: z) := fun z => bs_add [32] z
  go_wp2_with fail
  refine (Htx.out _ (pow_ext ht x9)).mono ?_
  rintro e wA ⟨rfl, eA⟩
  go_wp2_with fail
  go_ret
  exact ⟨by simp, x9.trans eA⟩
theorem all_walk (w : World) (ht : Pow w) (k p f : Int) (_hk : okI k) (_hp : okI p) (_hf : okI f) : Calls Tryd.prog 4 #[.agg #[.int .i64 k, .int .i64 p, .int .i64 f]] w (Yes w) := by
  cases h : mayE k p f
  · exact all_no w ht k p f h
  · obtain ⟨⟨p0, p1⟩, hw⟩ := mayE_ways h
    rcases hw with ⟨rfl, rfl⟩ | ⟨rfl, rfl⟩ | ⟨rfl, f0, f1⟩
    · exact all_1 w ht p p0 p1
    · exact all_2 w ht p p0 p1
    · exact all_3 w ht p p0 p1 f f0 f1
end Go.Proofs.YtihegdjdgklbgaaDoor
