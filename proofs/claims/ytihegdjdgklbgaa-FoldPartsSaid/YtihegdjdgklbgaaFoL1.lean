/- The walk of the law FoldParts. -/
import Derived.Test.YtihegdjdgklbgaaFoB
namespace Go.Proofs.Ytihegdjdgklbgaa
set_option maxRecDepth 100000
open Go.RowKit
set_option linter.unusedVariables false

set_option maxHeartbeats 4000000 in
theorem parts_walk (w : World) (t : List UInt8) (A : Option Addr) (n c : Nat) (l : List OpT) (ht : t.length ≤ maxLen) (hl : Ro w A n c l) (_hok : ∀ o ∈ l, okO o)
    (PA : Option Addr) (pn pc : Nat) (ps : List (List UInt8)) (hp : Rp w PA pn pc ps) (a : Int) (_h0 : -9223372036854775808 ≤ a) (_h1 : a ≤ 9223372036854775807) :
    Calls Try.prog 4 #[pAgg t A n c, .slice PA pn pc, .int .i64 a] w (Yes w) := by
  have hcut := fun W => pcut_any W t A n c 64 ht hl.max
  have hl' := hl.min_ 64
  have htl : (t.take 40).length ≤ 1099511627776 := by rw [List.length_take]; omega
  have hpr := fun W e => presses_any w W e PA pn pc ps 12 hp (by decide)
  obtain ⟨Q, hQ⟩ : ∃ Q, (ps.take 12).map (·.take 9) = Q := ⟨_, rfl⟩
  have hQl : Q.length ≤ 12 := by subst hQ; simp; omega
  unfold PressesOf at hpr
  rw [hQ] at hpr
  unfold pAgg at hcut ⊢
  have Hcut := Lib.hid hcut
  have Hpr := Lib.hid hpr
  clear hcut hpr hl hQ _hok
  generalize t.take 40 = t' at *
  generalize l.take 64 = l' at *
  generalize min n 64 = n' at *
  have hkey : a < 0 ∨ (Q.length : Int) < a ∨ ∃ k : Nat, a = k ∧ k ≤ Q.length := by
    rcases Int.lt_or_le a 0 with h | h
    · exact .inl h
    · rcases Int.lt_or_le (Q.length : Int) a with h2 | h2
      · exact .inr (.inl h2)
      · exact .inr (.inr ⟨a.toNat, by omega, by omega⟩)
  have Hkey := Lib.hid hkey
  clear hkey
  go_enter Try.func4, Try.ntmps4
  go_wp2_with fail
  refine (begun20_any _).mono ?_
  rintro e w1 ⟨rfl, e1⟩
  have c0 := e1.cell (show (w.alloc (.cells #[.string (bs t), .slice A n c] 24)).cell? ⟨w.heap.size, 0, none⟩ = some (.string (bs t)) by go_simp)
  have c1 := e1.cell (show (w.alloc (.cells #[.string (bs t), .slice A n c] 24)).cell? ⟨w.heap.size, 1, none⟩ = some (.slice A n c) by go_simp)
  have f0 : w1.frozen? ⟨w.heap.size, 0, none⟩ = false := by rw [e1.frozen (by simp)]; go_simp
  have f1 : w1.frozen? ⟨w.heap.size, 1, none⟩ = false := by rw [e1.frozen (by simp)]; go_simp
  have x1 := (Ext.alloc w _).trans e1
  have s1 : w.heap.size < w1.heap.size := World.block_lt_of_cell? w1 _ c0
  clear e1
  go_wp2_with fail
  refine (Hcut.out _).mono ?_
  rintro e w2 ⟨rfl, e2⟩
  have c0 := e2.cell c0
  have c1 := e2.cell c1
  have f0 : w2.frozen? ⟨w.heap.size, 0, none⟩ = false := by rw [e2.frozen s1]; exact f0
  have f1 : w2.frozen? ⟨w.heap.size, 1, none⟩ = false := by rw [e2.frozen s1]; exact f1
  have x2 := x1.trans e2
  have s2 : w.heap.size < w2.heap.size := World.block_lt_of_cell? w2 _ c0
  clear e2 s1 x1
  go_wp2_with fail
  refine (Hpr.out _ x2).mono ?_
  rintro e w3 ⟨B, m0, cp0, rfl, q0, e3⟩
  have c0 := e3.cell c0
  have c1 := e3.cell c1
  have f0 : w3.frozen? ⟨w.heap.size, 0, none⟩ = false := by rw [e3.frozen s2]; exact f0
  have f1 : w3.frozen? ⟨w.heap.size, 1, none⟩ = false := by rw [e3.frozen s2]; exact f1
  have x3 := x2.trans e3
  have s3 : w.heap.size < w3.heap.size := World.block_lt_of_cell? w3 _ c0
  have hm := q0.rp.len
  have hmx := q0.rp.max
  unfold maxLen at hmx
  subst hm
  rcases Hkey.out with h | h | ⟨k, rfl, hk⟩
  · have dn : decide (a < 0) = true := decide_eq_true h
    go_wp2_with fail
    go_ret
    exact ⟨rfl, (x3.setCell (Nat.le_refl _) _).setCell (Nat.le_refl _) _⟩
  · have dn : decide (a < 0) = false := decide_eq_false (by omega)
    have dm : decide ((Q.length : Int) < a) = true := decide_eq_true (by omega)
    go_wp2_with fail
    go_ret
    exact ⟨rfl, (x3.setCell (Nat.le_refl _) _).setCell (Nat.le_refl _) _⟩
  have dm : decide ((Q.length : Int) < (k : Int)) = false := decide_eq_false (by omega)
  have dm2 : decide (Q.length < k) = false := decide_eq_false (by omega)
  have hkm : k ≤ cp0 := by omega
  go_wp2_with fail
  generalize hW0 : World.setCell (World.setCell w3 _ _) _ _ = W0
  have x0 : Ext w W0 := by subst hW0; exact (x3.setCell (Nat.le_refl _) _).setCell (Nat.le_refl _) _
  have d0 : W0.cell? ⟨w.heap.size, 0, none⟩ = some (.string (bs t')) := by subst hW0; go_simp
  have d1 : W0.cell? ⟨w.heap.size, 1, none⟩ = some (.slice A n' c) := by subst hW0; go_simp
  have r0 : Rp W0 B Q.length cp0 Q := by subst hW0; exact ((q0.keep (grown_setG _ _ _ _) (Nat.le_refl _) s2).keep (grown_setG _ _ _ _) (Nat.le_refl _) s2).rp
  clear hW0 c0 c1 f0 f1 x2 x3 s3 e3 Hcut Hpr q0
  clear Hkey dm dm2
  have hfr1 := fun W h1 h2 => from_any W t' A n' c l' 0 B k cp0 (Q.take k) zeroG htl h1 h2 zeroG_ok (by decide) (by decide) (by rw [List.length_take]; omega)
  have hok1 := foldN_ok t' l' (Q.take k) 0 zeroG_ok
  obtain ⟨G1, hG1⟩ : ∃ x, foldN t' l' 0 zeroG (Q.take k) = x := ⟨_, rfl⟩
  rw [hG1] at hfr1 hok1
  have hfr2 := fun W PB nb cb h1 h2 => from_any W t' A n' c l' k PB nb cb (Q.drop k) G1 htl h1 h2 hok1 (by omega) (by omega) (by rw [List.length_drop]; omega)
  have hall := fun W PB nb cb h1 h2 => all_any W t' A n' c l' PB nb cb Q htl h1 h2 (by omega)
  have happ : foldN t' l' 0 zeroG Q = foldN t' l' k G1 (Q.drop k) := by
    have h := foldN_app t' l' (Q.take k) (Q.drop k) 0 zeroG
    rw [List.take_append_drop, hG1] at h
    rw [h]; congr 1; rw [List.length_take]; omega
  have hok2 := foldN_ok t' l' (Q.drop k) k hok1
  rw [happ] at hall
  generalize foldN t' l' k G1 (Q.drop k) = G2 at *
  have HG1 := Lib.hid hok1.1
  have HG2 := Lib.hid hok2.1
  unfold pAgg at hfr1 hfr2 hall
  have Hfr1 := Lib.hid hfr1
  have Hfr2 := Lib.hid hfr2
  have Hall := Lib.hid hall
  have hbz : (gcs zeroG) = zero32 := rfl
  clear hfr1 hfr2 hall happ hG1 hok1 hok2
  apply wp_region_lex_tails 7 (R := Ext) (by decide) (by kernel_rfl) (by kernel_rfl) (by kernel_rfl) Ext.refl (fun _ _ _ => Ext.trans) (Ext.drew _)
  simp only [List.take_succ_cons, List.take_zero]
  repeat
    apply lex_ex Ext.refl
    · rfl
    · intro W' hR hΦ
      have d2 := hR.cell d0
      have d3 := hR.cell d1
      go_simp
      first | done | with_reducible rfl
    simp only [Act.put, List.setIfInBounds_toArray, List.set_cons_zero, List.set_cons_succ]
  apply lex_callx
  · rfl
  · intro W'
    go_simp
    exact ⟨rfl, rfl⟩
  · intro W' hR hΦ
    exact (Hfr1.out _ (hl'.ext (x0.trans hR)) ((r0.take hk).ext hR)).mono fun _ _ h => h
  simp only [Act.put, List.setIfInBounds_toArray, List.set_cons_zero, List.set_cons_succ]
  repeat
    apply lex_ex Ext.refl
    · rfl
    · intro W' hR hΦ
      have d2 := hR.cell d0
      have d3 := hR.cell d1
      first
        | (go_simp; first | done | with_reducible rfl)
    simp only [Act.put, List.setIfInBounds_toArray, List.set_cons_zero, List.set_cons_succ]
  apply lex_new (p := fun u W => ∃ g0, u = .pointer (some ⟨g0, 0, none⟩) ∧ W0.heap.size ≤ g0 ∧ Blk W g0 31 zeroG) (fun _ _ _ ⟨g, hv, hg, h⟩ he => ⟨g, hv, hg, h.ext he⟩)
  · rfl
  · intro W hR hΦ
    refine ⟨.pointer (some ⟨W.heap.size, 0, none⟩), W.alloc (.cells zero32 31), ?_, Ext.alloc _ _, W.heap.size, rfl, hR.size, Blk.zero _ _ rfl⟩
    go_simp
    first | done | rfl
  intro v1
  simp only [Act.put, List.setIfInBounds_toArray, List.set_cons_zero, List.set_cons_succ]
  refine lex_nil ?_
  intro W1 hR1 hΦ
  obtain ⟨g1, rfl, hg1, hb1⟩ := hΦ.1 rfl
  simp only [List.drop_succ_cons, List.drop_zero]
  clear hΦ
  clear Hfr1
  go_wp2_with ((with_reducible refine wpList_put_game rfl 31 (.tmp 8) (.tmp 30) rfl rfl rfl hb1 HG1.out size_state ?_); intro W2 b2 y2 h2 z2; clear z2; have z2 := y2 W0 hR1 hg1; have d0 := z2.cell d0; have d1 := z2.cell d1; have x2 := x0.trans z2; have r2 := r0.ext z2; clear y2 h2 hR1 z2 hb1)
  by_cases hne : cp0 = k
  · subst hne
    apply wp_region_lex_tails 8 (R := Ext) (by decide) (by kernel_rfl) (by kernel_rfl) (by kernel_rfl) Ext.refl (fun _ _ _ => Ext.trans) (Ext.drew _)
    simp only [List.take_succ_cons, List.take_zero]
    repeat
      apply lex_ex Ext.refl
      · rfl
      · intro W' hR hΦ
        have d2 := hR.cell d0
        have d3 := hR.cell d1
        first
          | exact exec_load_gm 31 _ rfl rfl Try.underlying31 size_state (b2.gm.ext hR)
          | (go_simp; first | done | with_reducible rfl)
      simp only [Act.put, List.setIfInBounds_toArray, List.set_cons_zero, List.set_cons_succ]
    apply lex_callx
    · rfl
    · intro W'
      go_simp
      exact ⟨rfl, rfl⟩
    · intro W' hR hΦ
      exact (Hfr2.out _ _ _ _ (hl'.ext (x2.trans hR)) (by simpa [show Q.length - cp0 = 0 by omega] using (r2.drop hk).ext hR)).mono fun _ _ h => h
    simp only [Act.put, List.setIfInBounds_toArray, List.set_cons_zero, List.set_cons_succ]
    repeat
      apply lex_ex Ext.refl
      · rfl
      · intro W' hR hΦ
        have d2 := hR.cell d0
        have d3 := hR.cell d1
        first
          | (go_simp; first | done | with_reducible rfl)
      simp only [Act.put, List.setIfInBounds_toArray, List.set_cons_zero, List.set_cons_succ]
    apply lex_new (p := fun u W => ∃ g0, u = .pointer (some ⟨g0, 0, none⟩) ∧ W2.heap.size ≤ g0 ∧ Blk W g0 31 zeroG) (fun _ _ _ ⟨g, hv, hg, h⟩ he => ⟨g, hv, hg, h.ext he⟩)
    · rfl
    · intro W hR hΦ
      refine ⟨.pointer (some ⟨W.heap.size, 0, none⟩), W.alloc (.cells zero32 31), ?_, Ext.alloc _ _, W.heap.size, rfl, hR.size, Blk.zero _ _ rfl⟩
      go_simp
      first | done | rfl
    intro v3
    simp only [Act.put, List.setIfInBounds_toArray, List.set_cons_zero, List.set_cons_succ]
    refine lex_nil ?_
    intro W3 hR3 hΦ
    obtain ⟨g3, rfl, hg3, hb3⟩ := hΦ.1 rfl
    simp only [List.drop_succ_cons, List.drop_zero]
    clear hΦ
    clear Hfr2
    go_wp2_with ((with_reducible refine wpList_put_game rfl 31 (.tmp 9) (.tmp 37) rfl rfl rfl hb3 HG2.out size_state ?_); intro W4 b4 y2 h2 z2; clear z2; have z2 := y2 W2 hR3 hg3; have d0 := z2.cell d0; have d1 := z2.cell d1; have x4 := x2.trans z2; have r4 := r2.ext z2; clear y2 h2 hR3 z2 hb3)
    have heq := fun W => eq_game W HG2.out
    have hgu := guard_game
    apply wp_region_lex (R := Ext) (by kernel_rfl) (by kernel_rfl) Ext.refl (fun _ _ _ => Ext.trans) (Ext.drew _)
    repeat
      apply lex_ex Ext.refl
      · rfl
      · intro W' hR hΦ
        have d2 := hR.cell d0
        have d3 := hR.cell d1
        first
          | exact exec_load_gm 31 _ rfl rfl Try.underlying31 size_state (b4.gm.ext hR)
          | (go_simp; first | done | with_reducible rfl)
      simp only [Act.put, List.setIfInBounds_toArray, List.set_cons_zero, List.set_cons_succ]
    apply lex_callx
    · rfl
    · intro W'
      go_simp
      exact ⟨rfl, rfl⟩
    · intro W' hR hΦ
      exact (Hall.out _ _ _ _ (hl'.ext (x4.trans hR)) (r4.ext hR)).mono fun _ _ h => h
    simp only [Act.put, List.setIfInBounds_toArray, List.set_cons_zero, List.set_cons_succ]
    repeat
      apply lex_ex Ext.refl
      · rfl
      · intro W' hR hΦ
        have d2 := hR.cell d0
        have d3 := hR.cell d1
        first
          | (go_simp; first | done | with_reducible rfl)
      simp only [Act.put, List.setIfInBounds_toArray, List.set_cons_zero, List.set_cons_succ]
    refine lex_nil ?_
    intro W5 hR5 hΦ
    clear hΦ
    go_wp2_with fail
    go_ret
    exact ⟨rfl, x4.trans hR5⟩
  · have hne2 : (cp0 = k) = False := eq_false hne
    apply wp_region_lex_tails 8 (R := Ext) (by decide) (by kernel_rfl) (by kernel_rfl) (by kernel_rfl) Ext.refl (fun _ _ _ => Ext.trans) (Ext.drew _)
    simp only [List.take_succ_cons, List.take_zero]
    repeat
      apply lex_ex Ext.refl
      · rfl
      · intro W' hR hΦ
        have d2 := hR.cell d0
        have d3 := hR.cell d1
        first
          | exact exec_load_gm 31 _ rfl rfl Try.underlying31 size_state (b2.gm.ext hR)
          | (go_simp; first | done | with_reducible rfl)
      simp only [Act.put, List.setIfInBounds_toArray, List.set_cons_zero, List.set_cons_succ]
    apply lex_callx
    · rfl
    · intro W'
      go_simp
      exact ⟨rfl, rfl⟩
    · intro W' hR hΦ
      exact (Hfr2.out _ _ _ _ (hl'.ext (x2.trans hR)) (by simpa [hne] using (r2.drop hk).ext hR)).mono fun _ _ h => h
    simp only [Act.put, List.setIfInBounds_toArray, List.set_cons_zero, List.set_cons_succ]
    repeat
      apply lex_ex Ext.refl
      · rfl
      · intro W' hR hΦ
        have d2 := hR.cell d0
        have d3 := hR.cell d1
        first
          | (go_simp; first | done | with_reducible rfl)
      simp only [Act.put, List.setIfInBounds_toArray, List.set_cons_zero, List.set_cons_succ]
    apply lex_new (p := fun u W => ∃ g0, u = .pointer (some ⟨g0, 0, none⟩) ∧ W2.heap.size ≤ g0 ∧ Blk W g0 31 zeroG) (fun _ _ _ ⟨g, hv, hg, h⟩ he => ⟨g, hv, hg, h.ext he⟩)
    · rfl
    · intro W hR hΦ
      refine ⟨.pointer (some ⟨W.heap.size, 0, none⟩), W.alloc (.cells zero32 31), ?_, Ext.alloc _ _, W.heap.size, rfl, hR.size, Blk.zero _ _ rfl⟩
      go_simp
      first | done | rfl
    intro v3
    simp only [Act.put, List.setIfInBounds_toArray, List.set_cons_zero, List.set_cons_succ]
    refine lex_nil ?_
    intro W3 hR3 hΦ
    obtain ⟨g3, rfl, hg3, hb3⟩ := hΦ.1 rfl
    simp only [List.drop_succ_cons, List.drop_zero]
    clear hΦ
    clear Hfr2
    go_wp2_with ((with_reducible refine wpList_put_game rfl 31 (.tmp 9) (.tmp 37) rfl rfl rfl hb3 HG2.out size_state ?_); intro W4 b4 y2 h2 z2; clear z2; have z2 := y2 W2 hR3 hg3; have d0 := z2.cell d0; have d1 := z2.cell d1; have x4 := x2.trans z2; have r4 := r2.ext z2; clear y2 h2 hR3 z2 hb3)
    have heq := fun W => eq_game W HG2.out
    have hgu := guard_game
    apply wp_region_lex (R := Ext) (by kernel_rfl) (by kernel_rfl) Ext.refl (fun _ _ _ => Ext.trans) (Ext.drew _)
    repeat
      apply lex_ex Ext.refl
      · rfl
      · intro W' hR hΦ
        have d2 := hR.cell d0
        have d3 := hR.cell d1
        first
          | exact exec_load_gm 31 _ rfl rfl Try.underlying31 size_state (b4.gm.ext hR)
          | (go_simp; first | done | with_reducible rfl)
      simp only [Act.put, List.setIfInBounds_toArray, List.set_cons_zero, List.set_cons_succ]
    apply lex_callx
    · rfl
    · intro W'
      go_simp
      exact ⟨rfl, rfl⟩
    · intro W' hR hΦ
      exact (Hall.out _ _ _ _ (hl'.ext (x4.trans hR)) (r4.ext hR)).mono fun _ _ h => h
    simp only [Act.put, List.setIfInBounds_toArray, List.set_cons_zero, List.set_cons_succ]
    repeat
      apply lex_ex Ext.refl
      · rfl
      · intro W' hR hΦ
        have d2 := hR.cell d0
        have d3 := hR.cell d1
        first
          | (go_simp; first | done | with_reducible rfl)
      simp only [Act.put, List.setIfInBounds_toArray, List.set_cons_zero, List.set_cons_succ]
    refine lex_nil ?_
    intro W5 hR5 hΦ
    clear hΦ
    go_wp2_with fail
    go_ret
    exact ⟨rfl, x4.trans hR5⟩
end Go.Proofs.Ytihegdjdgklbgaa
