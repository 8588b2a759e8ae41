/- The walk of the law FoldAll. -/
import Derived.Test.YtihegdjdgklbgaaFoB
namespace Go.Proofs.Ytihegdjdgklbgaa
set_option maxRecDepth 100000
open Go.RowKit
set_option linter.unusedVariables false

def feRel2 (w : World) (Q : List (List UInt8)) (gp : Nat) (t : List UInt8) (A : Option Addr) (n c : Nat) (B E : Option Addr) (cp d : Nat) (es : List (List Int)) (iv : Value) (wr : World) : Prop :=
  ∃ k : Nat, iv = .int .i64 (k : Nat) ∧ k ≤ Q.length + 1 ∧ wr.cell? ⟨gp, 0, none⟩ = some (.string (bs t)) ∧ wr.cell? ⟨gp, 1, none⟩ = some (.slice A n c) ∧ Rp wr B Q.length cp Q ∧ Rg wr E (Q.length + 1) d es ∧ Ext w wr
set_option maxHeartbeats 4000000 in
theorem foldall_walk (w : World) (t : List UInt8) (A : Option Addr) (n c : Nat) (l : List OpT) (ht : t.length ≤ maxLen) (hl : Ro w A n c l) (_hok : ∀ o ∈ l, okO o)
    (ZA : Option Addr) (zn zc : Nat) (zs : List Int) (hz : Ri w .i32 ZA zn zc zs) (frame : Int) (_h0 : -9223372036854775808 ≤ frame) (_h1 : frame ≤ 9223372036854775807)
    (PA : Option Addr) (pn pc : Nat) (ps : List (List UInt8)) (hp : Rp w PA pn pc ps) :
    Calls Try.prog 3 #[pAgg t A n c, .slice ZA zn zc, .int .i64 frame, .slice PA pn pc] w (Yes w) := by
  have hcut := fun W => pcut_any W t A n c 64 ht hl.max
  have hl' := hl.min_ 64
  have htl : (t.take 40).length ≤ 1099511627776 := by rw [List.length_take]; omega
  have hpr := fun W e => presses_any w W e PA pn pc ps 12 hp (by decide)
  obtain ⟨Q, hQ⟩ : ∃ Q, (ps.take 12).map (·.take 9) = Q := ⟨_, rfl⟩
  have hQl : Q.length ≤ 12 := by subst hQ; simp; omega
  have hzok : ∀ z ∈ zs, ok32 z := fun z h => bd_i32 (hz.2 z h)
  have hgok := ofL_ok hzok
  have hof := fun W h => of_any W ZA zn zc zs h
  have hzr := hz.1
  unfold PressesOf at hpr
  rw [hQ] at hpr
  unfold pAgg at hcut ⊢
  have Hcut := Lib.hid hcut
  have Hpr := Lib.hid hpr
  have Hof := Lib.hid hof
  clear hcut hpr hl hQ _hok hof hz hzok
  generalize t.take 40 = t' at *
  generalize l.take 64 = l' at *
  generalize min n 64 = n' at *
  generalize ofL zs = g at *
  go_enter Try.func3, Try.ntmps3
  go_wp2_with fail
  refine (begun20_any _).mono ?_
  rintro e w1 ⟨rfl, e1⟩
  have c0 := e1.cell (show (w.alloc (.cells #[.string (bs t), .slice A n c] 24)).cell? ⟨w.heap.size, 0, none⟩ = some (.string (bs t)) by go_simp)
  have c1 := e1.cell (show (w.alloc (.cells #[.string (bs t), .slice A n c] 24)).cell? ⟨w.heap.size, 1, none⟩ = some (.slice A n c) by go_simp)
  have f0 : w1.frozen? ⟨w.heap.size, 0, none⟩ = false := by rw [e1.frozen (by simp)]; go_simp
  have f1 : w1.frozen? ⟨w.heap.size, 1, none⟩ = false := by rw [e1.frozen (by simp)]; go_simp
  have x1 := (Ext.alloc w _).trans e1
  have s1 : w.heap.size < w1.heap.size := World.block_lt_of_cell? w1 _ c0
  clear e1
  go_wp2_with fail
  refine (Hcut.out _).mono ?_
  rintro e w2 ⟨rfl, e2⟩
  have c0 := e2.cell c0
  have c1 := e2.cell c1
  have f0 : w2.frozen? ⟨w.heap.size, 0, none⟩ = false := by rw [e2.frozen s1]; exact f0
  have f1 : w2.frozen? ⟨w.heap.size, 1, none⟩ = false := by rw [e2.frozen s1]; exact f1
  have x2 := x1.trans e2
  have s2 : w.heap.size < w2.heap.size := World.block_lt_of_cell? w2 _ c0
  clear e2 s1 x1
  go_wp2_with fail
  refine (Hpr.out _ x2).mono ?_
  rintro e w3 ⟨B, m0, cp0, rfl, q0, e3⟩
  have c0 := e3.cell c0
  have c1 := e3.cell c1
  have f0 : w3.frozen? ⟨w.heap.size, 0, none⟩ = false := by rw [e3.frozen s2]; exact f0
  have f1 : w3.frozen? ⟨w.heap.size, 1, none⟩ = false := by rw [e3.frozen s2]; exact f1
  have x3 := x2.trans e3
  have s3 : w.heap.size < w3.heap.size := World.block_lt_of_cell? w3 _ c0
  have hm := q0.rp.len
  have hmx := q0.rp.max
  unfold maxLen at hmx
  subst hm
  by_cases hf0 : frame < 0
  · have dn : decide (frame < 0) = true := decide_eq_true hf0
    go_wp2_with fail
    go_ret
    exact ⟨rfl, (x3.setCell (Nat.le_refl _) _).setCell (Nat.le_refl _) _⟩
  have dn : decide (frame < 0) = false := decide_eq_false hf0
  by_cases hf1 : 100000 < frame
  · have dm : decide (100000 < frame) = true := decide_eq_true hf1
    go_wp2_with fail
    go_ret
    exact ⟨rfl, (x3.setCell (Nat.le_refl _) _).setCell (Nat.le_refl _) _⟩
  have dm : decide (100000 < frame) = false := decide_eq_false hf1
  go_wp2_with fail
  generalize hW0 : World.setCell (World.setCell w3 _ _) _ _ = W0
  have x0 : Ext w W0 := by subst hW0; exact (x3.setCell (Nat.le_refl _) _).setCell (Nat.le_refl _) _
  have d0 : W0.cell? ⟨w.heap.size, 0, none⟩ = some (.string (bs t')) := by subst hW0; go_simp
  have d1 : W0.cell? ⟨w.heap.size, 1, none⟩ = some (.slice A n' c) := by subst hW0; go_simp
  have r0 : Rp W0 B Q.length cp0 Q := by subst hW0; exact ((q0.keep (grown_setG _ _ _ _) (Nat.le_refl _) s2).keep (grown_setG _ _ _ _) (Nat.le_refl _) s2).rp
  clear hW0 c0 c1 f0 f1 x2 x3 s3 e3 Hcut Hpr q0
  refine (Hof.out _ (hzr.ext x0)).mono ?_
  rintro e w4 ⟨rfl, e4⟩
  have d0 := e4.cell d0
  have d1 := e4.cell d1
  have x4 := x0.trans e4
  have r4 := r0.ext e4
  have Hgl := Lib.hid hgok.1
  have hfr := fun W h1 h2 => from_any W t' A n' c l' frame B Q.length cp0 Q g htl h1 h2 hgok (by omega) (by omega) (by omega)
  have hrf := fun W h1 h2 => rfold_any W t' A n' c l' frame B Q.length cp0 Q g htl h1 h2 hgok (by omega) (by omega) (by omega)
  have hGok := foldN_ok t' l' Q frame hgok
  generalize foldN t' l' frame g Q = G at *
  have HG := Lib.hid hGok.1
  unfold pAgg at hfr hrf
  have Hfr := Lib.hid hfr
  have Hrf := Lib.hid hrf
  clear hfr hrf hGok hgok e4 x0 r0 Hof dn dm
  go_wp2_with ((with_reducible refine wpList_put_new _ rfl 31 (.tmp 10) (.tmp 27) rfl rfl rfl Hgl.out size_state ?_); intro W5 b5 x5 s5; clear s5; have d0 := x5.cell d0; have d1 := x5.cell d1; have xE := x4.trans x5; have rE := r4.ext x5; clear x5 x4 r4)
  have heq := fun W => eq_game W HG.out
  have hgu := guard_game
  apply wp_region_lex (R := Ext) (by kernel_rfl) (by kernel_rfl) Ext.refl (fun _ _ _ => Ext.trans) (Ext.drew _)
  repeat
    apply lex_ex Ext.refl
    · rfl
    · intro W' hR hΦ
      have d2 := hR.cell d0
      have d3 := hR.cell d1
      first
        | exact exec_load_gm 31 _ rfl rfl Try.underlying31 size_state (b5.gm.ext hR)
        | (go_simp; first | done | with_reducible rfl)
    simp only [Act.put, List.setIfInBounds_toArray, List.set_cons_zero, List.set_cons_succ]
  apply lex_callx
  · rfl
  · intro W'
    go_simp
    exact ⟨rfl, rfl⟩
  · intro W' hR hΦ
    exact (Hfr.out _ (hl'.ext (xE.trans hR)) (rE.ext hR)).mono fun _ _ h => h
  simp only [Act.put, List.setIfInBounds_toArray, List.set_cons_zero, List.set_cons_succ]
  repeat
    apply lex_ex Ext.refl
    · rfl
    · intro W' hR hΦ
      have d2 := hR.cell d0
      have d3 := hR.cell d1
      first
        | exact exec_load_gm 31 _ rfl rfl Try.underlying31 size_state (b5.gm.ext hR)
        | (go_simp; first | done | with_reducible rfl)
    simp only [Act.put, List.setIfInBounds_toArray, List.set_cons_zero, List.set_cons_succ]
  apply lex_callx
  · rfl
  · intro W'
    go_simp
    exact ⟨rfl, rfl⟩
  · intro W' hR hΦ
    exact (Hrf.out _ (hl'.ext (xE.trans hR)) (rE.ext hR)).mono fun _ _ h => h
  simp only [Act.put, List.setIfInBounds_toArray, List.set_cons_zero, List.set_cons_succ]
  repeat
    apply lex_ex Ext.refl
    · rfl
    · intro W' hR hΦ
      have d2 := hR.cell d0
      have d3 := hR.cell d1
      first
        | (go_simp; first | done | with_reducible rfl)
    simp only [Act.put, List.setIfInBounds_toArray, List.set_cons_zero, List.set_cons_succ]
  refine lex_nil ?_
  intro W6 hR6 hΦ
  have d0 := hR6.cell d0
  have d1 := hR6.cell d1
  have x6 := xE.trans hR6
  have r6 := rE.ext hR6
  clear hΦ hR6 xE rE b5 Hfr Hrf heq HG
  have hea := fun W h1 h2 => each_any W t' A n' c l' B Q.length cp0 Q htl h1 h2 (by omega)
  unfold EachOf pAgg at hea
  have Hea := Lib.hid hea
  clear hea
  go_wp2_with fail
  refine Calls.mono (Hea.out _ (hl'.ext x6) r6) ?_
  rintro e w7 ⟨E, d, rfl, hrg, e7⟩
  have d0 := e7.cell d0
  have d1 := e7.cell d1
  have r7 := r6.ext e7
  have x7 := x6.trans e7
  clear e7 x6 r6 Hea
  have hel := eachK_len t' l' Q Q.length
  obtain ⟨gb, go, rfl, hga⟩ := hrg.at_ (k := 0) (by omega)
  clear hga
  have hgl2 : ∀ (k : Nat) (h : k < (eachK t' l' Q Q.length).length), (eachK t' l' Q Q.length)[k] = foldN t' l' 0 zeroG (Q.take k) := fun k h => eachK_at t' l' Q h
  generalize eachK t' l' Q Q.length = es at *
  have Hgl2 := Lib.hid hgl2
  have Hes := Lib.hid hel
  clear hgl2 hel
  go_wp2_with fail
  go_loopw [12] (fun iv wr => feRel2 w Q w.heap.size t' A n' c B (some ⟨gb, go, none⟩) cp0 d es iv wr) (fun iv _ => Q.length + 1 - (intOf iv).toNat)
  case atStart => exact ⟨0, rfl, by omega, d0, d1, r7, hrg, x7⟩
  case round =>
    obtain ⟨k, rfl, hk, d0, d1, rk, gk, xk⟩ := hrel
    by_cases hlt : k ≤ Q.length
    · have hd : decide (k ≤ Q.length) = true := decide_eq_true hlt
      obtain ⟨b1, o1, hb1, ga1⟩ := gk.at_ (k := k) (by rw [Hes.out]; omega)
      cases hb1
      rw [Hgl2.out] at ga1
      have hrf := fun W h1 h2 => rfold_any W t' A n' c l' 0 B k cp0 (Q.take k) zeroG htl h1 h2 zeroG_ok (by decide) (by decide) (by rw [List.length_take]; omega)
      have Hg2 := Lib.hid (foldN_ok t' l' (Q.take k) 0 zeroG_ok).1
      unfold pAgg at hrf
      have Hrf := Lib.hid hrf
      clear hrf
      generalize foldN t' l' 0 zeroG (Q.take k) = G1 at *
      have heq := fun W => eq_game W Hg2.out
      have hix4 : (0 : Int) ≤ (k : Int) ∧ (k : Int) < (Q.length : Int) + 1 := by omega
      have hix5 : k < Q.length + 1 := by omega
      have hix6 : (k : Int) < (Q.length : Int) + 1 := by omega
      have hkd : k ≤ cp0 := by omega
      have hlt2 : (k : Int) ≤ (Q.length : Int) := by omega
      go_wp2_with fail
      apply wp_region_lex (R := Ext) (by kernel_rfl) (by kernel_rfl) Ext.refl (fun _ _ _ => Ext.trans) (Ext.drew _)
      repeat
        apply lex_ex Ext.refl
        · rfl
        · intro W' hR hΦ
          have d2 := hR.cell d0
          have d3 := hR.cell d1
          first
            | exact exec_load_gat 31 _ rfl rfl Try.underlying31 size_state (ga1.ext hR)
            | (go_simp; first | done | with_reducible rfl)
        simp only [Act.put, List.setIfInBounds_toArray, List.set_cons_zero, List.set_cons_succ]
      apply lex_callx
      · rfl
      · intro W'
        go_simp
        exact ⟨rfl, rfl⟩
      · intro W' hR hΦ
        exact (Hrf.out _ (hl'.ext (xk.trans hR)) ((rk.take hlt).ext hR)).mono fun _ _ h => h
      simp only [Act.put, List.setIfInBounds_toArray, List.set_cons_zero, List.set_cons_succ]
      repeat
        apply lex_ex Ext.refl
        · rfl
        · intro W' hR hΦ
          have d2 := hR.cell d0
          have d3 := hR.cell d1
          first
            | exact exec_load_gat 31 _ rfl rfl Try.underlying31 size_state (ga1.ext hR)
            | (go_simp; first | done | with_reducible rfl)
        simp only [Act.put, List.setIfInBounds_toArray, List.set_cons_zero, List.set_cons_succ]
      refine lex_nil ?_
      intro W8 hR8 hΦ
      have d0 := hR8.cell d0
      have d1 := hR8.cell d1
      have x8 := xk.trans hR8
      have r8 := rk.ext hR8
      have g8 := gk.ext hR8
      clear hΦ hR8 xk rk gk ga1
      go_wp2_with fail
      go_roundw
      case rel => exact ⟨k + 1, by go_num, by omega, d0, d1, r8, g8, x8⟩
      case measure => simp [intOf]; omega
    · have hd : decide (k ≤ Q.length) = false := decide_eq_false hlt
      obtain ⟨b1, o1, hb1, ga1⟩ := gk.at_ (k := Q.length) (by rw [Hes.out]; omega)
      cases hb1
      rw [Hgl2.out, List.take_length] at ga1
      have hal := fun W h1 h2 => all_any W t' A n' c l' B Q.length cp0 Q htl h1 h2 (by omega)
      have Hg2 := Lib.hid (foldN_ok t' l' Q 0 zeroG_ok).1
      unfold pAgg at hal
      have Hal := Lib.hid hal
      clear hal
      generalize foldN t' l' 0 zeroG Q = G1 at *
      have heq := fun W => eq_game W Hg2.out
      have hix4 : (0 : Int) ≤ (Q.length : Int) ∧ (Q.length : Int) < (Q.length : Int) + 1 := by omega
      have hix5 : Q.length < Q.length + 1 := by omega
      go_wp2_with fail
      apply wp_region_lex (R := Ext) (by kernel_rfl) (by kernel_rfl) Ext.refl (fun _ _ _ => Ext.trans) (Ext.drew _)
      repeat
        apply lex_ex Ext.refl
        · rfl
        · intro W' hR hΦ
          have d2 := hR.cell d0
          have d3 := hR.cell d1
          first
            | exact exec_load_gat 31 _ rfl rfl Try.underlying31 size_state (ga1.ext hR)
            | (go_simp; first | done | with_reducible rfl)
        simp only [Act.put, List.setIfInBounds_toArray, List.set_cons_zero, List.set_cons_succ]
      apply lex_callx
      · rfl
      · intro W'
        go_simp
        exact ⟨rfl, rfl⟩
      · intro W' hR hΦ
        exact (Hal.out _ (hl'.ext (xk.trans hR)) (rk.ext hR)).mono fun _ _ h => h
      simp only [Act.put, List.setIfInBounds_toArray, List.set_cons_zero, List.set_cons_succ]
      repeat
        apply lex_ex Ext.refl
        · rfl
        · intro W' hR hΦ
          have d2 := hR.cell d0
          have d3 := hR.cell d1
          first
            | exact exec_load_gat 31 _ rfl rfl Try.underlying31 size_state (ga1.ext hR)
            | (go_simp; first | done | with_reducible rfl)
        simp only [Act.put, List.setIfInBounds_toArray, List.set_cons_zero, List.set_cons_succ]
      refine lex_nil ?_
      intro W8 hR8 hΦ
      clear hΦ
      go_wp2_with fail
      go_ret
      exact ⟨rfl, xk.trans hR8⟩
end Go.Proofs.Ytihegdjdgklbgaa
