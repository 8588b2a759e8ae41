/- The walk of the law EventTwins. -/
import Derived.Test.YtihegdjdgklbgaaDoorEvB
import Derived.Test.YtihegdjdgklbgaaDoorRowF
namespace Go.Proofs.YtihegdjdgklbgaaDoor
set_option maxRecDepth 100000
open Go.RowKit
set_option linter.unusedVariables false

theorem decL_dig {p : Int} (h0 : 0 ≤ p) (h1 : p ≤ 7) : decL p = [UInt8.ofNat (48 + p.toNat)] := by
  have h : p = 0 ∨ p = 1 ∨ p = 2 ∨ p = 3 ∨ p = 4 ∨ p = 5 ∨ p = 6 ∨ p = 7 := by omega
  rcases h with rfl | rfl | rfl | rfl | rfl | rfl | rfl | rfl <;> decide +kernel
theorem dig_inj {p q : Int} (h0 : 0 ≤ p) (h1 : p ≤ 7) (h2 : 0 ≤ q) (h3 : q ≤ 7) (h : UInt8.ofNat (48 + p.toNat) = UInt8.ofNat (48 + q.toNat)) : p = q := by
  have h4 := congrArg UInt8.toNat h
  simp at h4
  omega
theorem textL_inj {k p f k' p' f' : Int} (h : mayE k p f = true) (h' : mayE k' p' f' = true) (e : textL k p f = textL k' p' f') : k = k' ∧ p = p' ∧ f = f' := by
  obtain ⟨⟨p0, p1⟩, hw⟩ := mayE_ways h
  obtain ⟨⟨q0, q1⟩, hw'⟩ := mayE_ways h'
  rcases hw with ⟨rfl, rfl⟩ | ⟨rfl, rfl⟩ | ⟨rfl, f0, f1⟩ <;> rcases hw' with ⟨rfl, rfl⟩ | ⟨rfl, rfl⟩ | ⟨rfl, g0, g1⟩
  all_goals simp only [textL, if_true, if_false, (by decide : ¬ (2 : Int) = 1), (by decide : ¬ (3 : Int) = 1), (by decide : ¬ (3 : Int) = 2), decL_dig p0 p1, decL_dig q0 q1] at e
  all_goals simp at e
  · have h4 : UInt8.ofNat (48 + p.toNat) = UInt8.ofNat (48 + p'.toNat) := by simpa using e
    exact ⟨rfl, dig_inj p0 p1 q0 q1 h4, rfl⟩
  · have h4 : UInt8.ofNat (48 + p.toNat) = UInt8.ofNat (48 + p'.toNat) := by simpa using e
    exact ⟨rfl, dig_inj p0 p1 q0 q1 h4, rfl⟩
  · have h4 : UInt8.ofNat (48 + p.toNat) = UInt8.ofNat (48 + p'.toNat) := by simpa using e.1
    exact ⟨rfl, dig_inj p0 p1 q0 q1 h4, decL_inj f0 g0 e.2⟩
/-- What Of hands back, whatever came in. -/
theorem of_ev (k p f : Int) : ∃ v b, b = mayE k p f ∧ (b = true → v = evW k p f) ∧ (b = false → v = .nilIface) ∧ v.oneCell' = true ∧ ∀ W, Calls Tryd.prog 8 #[.agg #[.int .i64 k, .int .i64 p, .int .i64 f]] W (OfIs W v b) := by
  cases h : mayE k p f
  · exact ⟨_, _, rfl, (by simp), fun _ => rfl, rfl, fun W => of_no W k p f h⟩
  · refine ⟨_, _, rfl, fun _ => rfl, (by simp), ?_, fun W => of_yes W k p f h⟩
    obtain ⟨_, hw⟩ := mayE_ways h
    rcases hw with ⟨rfl, rfl⟩ | ⟨rfl, rfl⟩ | ⟨rfl, _⟩ <;> rfl
set_option maxRecDepth 100000 in
set_option maxHeartbeats 2000000 in
theorem twins_walk (w : World) (ht : Pow w) (k p f : Int) (hk : okI k) (hp : okI p) (hf : okI f) (k' p' f' : Int) (hk' : okI k') (hp' : okI p') (hf' : okI f') :
    Calls Tryd.prog 3 #[.agg #[.int .i64 k, .int .i64 p, .int .i64 f], .agg #[.int .i64 k', .int .i64 p', .int .i64 f']] w (Yes w) := by
  have hbe := fun W h => begun12_any W h
  have Hbe := Lib.hid hbe
  obtain ⟨v1, b1, hb1, hv1, _, hn1, hc1⟩ := of_ev k p f
  obtain ⟨v2, b2, hb2, hv2, _, hn2, hc2⟩ := of_ev k' p' f'
  have hs1 := fun W a => run_store Tryd.prog W a v1 .plain hn1
  have hs2 := fun W a => run_store Tryd.prog W a v2 .plain hn2
  have Hb1 := Lib.hid hb1
  have Hb2 := Lib.hid hb2
  have Hv1 := Lib.hid hv1
  have Hv2 := Lib.hid hv2
  have Hc1 := Lib.hid hc1
  have Hc2 := Lib.hid hc2
  clear hbe hb1 hb2 hv1 hv2 hc1 hc2
  go_enter Tryd.func3, Tryd.ntmps3
  go_wp2_with fail
  generalize hV : World.alloc (World.alloc w _) _ = V
  have eV : Ext w V := by subst hV; exact (Ext.alloc _ _).trans (Ext.alloc _ _)
  have c0 : V.cell? ⟨w.heap.size, 0, none⟩ = some (.int .i64 k) := by subst hV; go_simp
  have c1 : V.cell? ⟨w.heap.size, 1, none⟩ = some (.int .i64 p) := by subst hV; go_simp
  have c2 : V.cell? ⟨w.heap.size, 2, none⟩ = some (.int .i64 f) := by subst hV; go_simp
  have c3 : V.cell? ⟨w.heap.size + 1, 0, none⟩ = some (.int .i64 k') := by subst hV; go_simp
  have c4 : V.cell? ⟨w.heap.size + 1, 1, none⟩ = some (.int .i64 p') := by subst hV; go_simp
  have c5 : V.cell? ⟨w.heap.size + 1, 2, none⟩ = some (.int .i64 f') := by subst hV; go_simp
  clear hV
  refine (Hbe.out V (pow_ext ht eV)).mono ?_
  rintro e w1 ⟨rfl, e1⟩
  have c0 := e1.cell c0
  have c1 := e1.cell c1
  have c2 := e1.cell c2
  have c3 := e1.cell c3
  have c4 := e1.cell c4
  have c5 := e1.cell c5
  have x1 := eV.trans e1
  go_wp2_with fail
  refine (Hc1.out w1).mono ?_
  rintro e w2 ⟨rfl, e2⟩
  have c0 := e2.cell c0
  have c1 := e2.cell c1
  have c2 := e2.cell c2
  have c3 := e2.cell c3
  have c4 := e2.cell c4
  have c5 := e2.cell c5
  have x2 := x1.trans e2
  have s2 : w.heap.size + 1 < w2.heap.size := World.block_lt_of_cell? w2 _ c3
  have s2' : w.heap.size < w2.heap.size := by omega
  go_wp2_with fail
  generalize hV : World.alloc w2 _ = V2
  have x3 : Ext w V2 := by subst hV; exact x2.trans (Ext.alloc _ _)
  have c0 : V2.cell? ⟨w.heap.size, 0, none⟩ = some (.int .i64 k) := by subst hV; exact (Ext.alloc _ _).cell c0
  have c1 : V2.cell? ⟨w.heap.size, 1, none⟩ = some (.int .i64 p) := by subst hV; exact (Ext.alloc _ _).cell c1
  have c2 : V2.cell? ⟨w.heap.size, 2, none⟩ = some (.int .i64 f) := by subst hV; exact (Ext.alloc _ _).cell c2
  have c3 : V2.cell? ⟨w.heap.size + 1, 0, none⟩ = some (.int .i64 k') := by subst hV; exact (Ext.alloc _ _).cell c3
  have c4 : V2.cell? ⟨w.heap.size + 1, 1, none⟩ = some (.int .i64 p') := by subst hV; exact (Ext.alloc _ _).cell c4
  have c5 : V2.cell? ⟨w.heap.size + 1, 2, none⟩ = some (.int .i64 f') := by subst hV; exact (Ext.alloc _ _).cell c5
  have c6 : V2.cell? ⟨w2.heap.size, 0, none⟩ = some v1 := by subst hV; go_simp
  clear hV s2 s2'
  refine (Hc2.out V2).mono ?_
  rintro e w3 ⟨rfl, e3⟩
  have c0 := e3.cell c0
  have c1 := e3.cell c1
  have c2 := e3.cell c2
  have c3 := e3.cell c3
  have c4 := e3.cell c4
  have c5 := e3.cell c5
  have c6 := e3.cell c6
  have x4 := x3.trans e3
  have s3 : w.heap.size < w3.heap.size := World.block_lt_of_cell? w3 _ c0
  have s4 : w.heap.size + 1 < w3.heap.size := World.block_lt_of_cell? w3 _ c3
  have s5 : w2.heap.size < w3.heap.size := World.block_lt_of_cell? w3 _ c6
  cases b1 with
  | false =>
    go_wp2_with fail
    go_ret
    exact ⟨rfl, x4.trans (Ext.alloc _ _)⟩
  | true =>
    cases b2 with
    | false =>
      go_wp2_with fail
      go_ret
      exact ⟨rfl, x4.trans (Ext.alloc _ _)⟩
    | true =>
      go_wp2_with fail
      generalize hV : World.alloc w3 _ = V3
      have x5 : Ext w V3 := by subst hV; exact x4.trans (Ext.alloc _ _)
      have c0 : V3.cell? ⟨w.heap.size, 0, none⟩ = some (.int .i64 k) := by subst hV; exact (Ext.alloc _ _).cell c0
      have c1 : V3.cell? ⟨w.heap.size, 1, none⟩ = some (.int .i64 p) := by subst hV; exact (Ext.alloc _ _).cell c1
      have c2 : V3.cell? ⟨w.heap.size, 2, none⟩ = some (.int .i64 f) := by subst hV; exact (Ext.alloc _ _).cell c2
      have c3 : V3.cell? ⟨w.heap.size + 1, 0, none⟩ = some (.int .i64 k') := by subst hV; exact (Ext.alloc _ _).cell c3
      have c4 : V3.cell? ⟨w.heap.size + 1, 1, none⟩ = some (.int .i64 p') := by subst hV; exact (Ext.alloc _ _).cell c4
      have c5 : V3.cell? ⟨w.heap.size + 1, 2, none⟩ = some (.int .i64 f') := by subst hV; exact (Ext.alloc _ _).cell c5
      have c6 : V3.cell? ⟨w2.heap.size, 0, none⟩ = some v1 := by subst hV; exact (Ext.alloc _ _).cell c6
      have c7 : V3.cell? ⟨w3.heap.size, 0, none⟩ = some v2 := by subst hV; go_simp
      clear hV s3 s4 s5
      have ht1 := fun W h => textev W h k p f Hb1.out.symm
      have ht2 := fun W h => textev W h k' p' f' Hb2.out.symm
      rw [← Hv1.out trivial] at ht1
      rw [← Hv2.out trivial] at ht2
      have heq := fun W => eqraw_any W k p f k' p' f'
      obtain ⟨E, hE⟩ : ∃ E, (k == k' && p == p' && f == f') = E := ⟨_, rfl⟩
      rw [hE] at heq
      have hT : (textL k p f == textL k' p' f') = E := by
        rw [← hE]
        by_cases h : textL k p f = textL k' p' f'
        · obtain ⟨rfl, rfl, rfl⟩ := textL_inj Hb1.out.symm Hb2.out.symm h
          simp
        · have h2 : (k == k' && p == p' && f == f') = false := by
            rw [Bool.eq_false_iff]
            intro h3
            simp only [Bool.and_eq_true, beq_iff_eq] at h3
            obtain ⟨⟨rfl, rfl⟩, rfl⟩ := h3
            exact h rfl
          rw [h2]
          exact beq_eq_false_iff_ne.2 h
      have Ht1 := Lib.hid ht1
      have Ht2 := Lib.hid ht2
      have Heq := Lib.hid heq
      clear ht1 ht2 heq hE Hv1 Hv2 Hb1 Hb2 Hc1 Hc2 Hbe hs1 hs2
      have t3 := pow_ext ht x5
      generalize textL k p f = T1 at *
      generalize textL k' p' f' = T2 at *
      apply wp_region_lex (R := Ext) (by kernel_rfl) (by kernel_rfl) Ext.refl (fun _ _ _ => Ext.trans) (Ext.drew _)
      repeat
        apply lex_ex Ext.refl
        · rfl
        · intro W' hR hΦ
          have d0 := hR.cell c0
          have d1 := hR.cell c1
          have d2 := hR.cell c2
          have d3 := hR.cell c3
          have d4 := hR.cell c4
          have d5 := hR.cell c5
          have d6 := hR.cell c6
          have d7 := hR.cell c7
          go_simp
          first | done | with_reducible rfl
        simp only [Act.put, List.setIfInBounds_toArray, List.set_cons_zero, List.set_cons_succ]
      apply lex_callx
      · rfl
      · intro W'
        go_simp
        exact ⟨rfl, rfl⟩
      · intro W' hR hΦ
        exact (Ht1.out _ (pow_ext t3 hR)).mono fun _ _ h => h
      simp only [Act.put, List.setIfInBounds_toArray, List.set_cons_zero, List.set_cons_succ]
      repeat
        apply lex_ex Ext.refl
        · rfl
        · intro W' hR hΦ
          have d0 := hR.cell c0
          have d1 := hR.cell c1
          have d2 := hR.cell c2
          have d3 := hR.cell c3
          have d4 := hR.cell c4
          have d5 := hR.cell c5
          have d6 := hR.cell c6
          have d7 := hR.cell c7
          go_simp
          first | done | with_reducible rfl
        simp only [Act.put, List.setIfInBounds_toArray, List.set_cons_zero, List.set_cons_succ]
      apply lex_callx
      · rfl
      · intro W'
        go_simp
        exact ⟨rfl, rfl⟩
      · intro W' hR hΦ
        exact (Ht2.out _ (pow_ext t3 hR)).mono fun _ _ h => h
      simp only [Act.put, List.setIfInBounds_toArray, List.set_cons_zero, List.set_cons_succ]
      repeat
        apply lex_ex Ext.refl
        · rfl
        · intro W' hR hΦ
          have d0 := hR.cell c0
          have d1 := hR.cell c1
          have d2 := hR.cell c2
          have d3 := hR.cell c3
          have d4 := hR.cell c4
          have d5 := hR.cell c5
          have d6 := hR.cell c6
          have d7 := hR.cell c7
          go_simp
          first | done | with_reducible rfl
        simp only [Act.put, List.setIfInBounds_toArray, List.set_cons_zero, List.set_cons_succ]
      apply lex_callx
      · rfl
      · intro W'
        go_simp
        exact ⟨rfl, rfl⟩
      · intro W' hR hΦ
        exact (Heq.out _).mono fun _ _ h => h
      simp only [Act.put, List.setIfInBounds_toArray, List.set_cons_zero, List.set_cons_succ]
      repeat
        apply lex_ex Ext.refl
        · rfl
        · intro W' hR hΦ
          have d0 := hR.cell c0
          have d1 := hR.cell c1
          have d2 := hR.cell c2
          have d3 := hR.cell c3
          have d4 := hR.cell c4
          have d5 := hR.cell c5
          have d6 := hR.cell c6
          have d7 := hR.cell c7
          go_simp
          first | done | with_reducible rfl
        simp only [Act.put, List.setIfInBounds_toArray, List.set_cons_zero, List.set_cons_succ]
      refine lex_nil ?_
      intro W5 hR5 hΦ
      clear hΦ
      go_wp2_with fail
      go_ret
      exact ⟨by simp, x5.trans hR5⟩
end Go.Proofs.YtihegdjdgklbgaaDoor
