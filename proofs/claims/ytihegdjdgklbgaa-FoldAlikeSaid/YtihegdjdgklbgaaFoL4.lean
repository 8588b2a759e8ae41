/- The walk of the law FoldAlike. -/
import Derived.Test.YtihegdjdgklbgaaFoB
namespace Go.Proofs.Ytihegdjdgklbgaa
set_option maxRecDepth 100000
open Go.RowKit
set_option linter.unusedVariables false

theorem valN_alike {t p p' : List UInt8} {f : Int} {g : List Int} {o : OpT} (h : o.1 ≠ 11) : valN t p f g o = valN t p' f g o := by simp [valN, h]
theorem oneN_alike {t p p' : List UInt8} {f : Int} {g : List Int} {k : Nat} {o : OpT} (h : o.1 ≠ 11) : oneN t p f g k o = oneN t p' f g k o := by unfold oneN; rw [valN_alike (p' := p') h]
theorem runN_alike {t p p' : List UInt8} {f : Int} {l : List OpT} (h : ∀ o ∈ l, o.1 ≠ 11) : ∀ (fuel k : Nat) (g : List Int), runN t p f l fuel k g = runN t p' f l fuel k g
  | 0, _, _ => rfl
  | fuel + 1, k, g => by
    unfold runN
    cases e : l[k]? with
    | none => rfl
    | some o =>
      have ho := h o (List.mem_of_getElem? e)
      simp only []
      rw [oneN_alike (p := p) (p' := p') ho, runN_alike (p := p) (p' := p') h fuel]
theorem stepN_alike {t p p' : List UInt8} {f : Int} {l : List OpT} (h : ∀ o ∈ l, o.1 ≠ 11) (g : List Int) : stepN t p f l g = stepN t p' f l g := by unfold stepN; rw [runN_alike (p' := p') h]
theorem foldN_alike {t : List UInt8} {l : List OpT} (h : ∀ o ∈ l, o.1 ≠ 11) : ∀ (ps ps' : List (List UInt8)) (f : Int) (g : List Int), ps.length = ps'.length → foldN t l f g ps = foldN t l f g ps'
  | [], [], _, _, _ => rfl
  | p :: ps, p' :: ps', f, g, e => by
    unfold foldN
    rw [stepN_alike (p' := p') h, foldN_alike h ps ps' _ _ (by simpa using e)]
  | [], _ :: _, _, _, e => by simp at e
  | _ :: _, [], _, _, e => by simp at e
def flRel (w : World) (l : List OpT) (Q Q2 : List (List UInt8)) (gp : Nat) (t : List UInt8) (A : Option Addr) (n c : Nat) (B C : Option Addr) (cp cp2 : Nat) (iv : Value) (wr : World) : Prop :=
  ∃ k : Nat, iv = .int .i64 (k : Nat) ∧ k ≤ l.length ∧ wr.cell? ⟨gp, 0, none⟩ = some (.string (bs t)) ∧ wr.cell? ⟨gp, 1, none⟩ = some (.slice A n c) ∧ Rp wr B Q.length cp Q ∧ Rp wr C Q2.length cp2 Q2 ∧ (∀ o ∈ l.take k, o.1 ≠ 11) ∧ Ext w wr

set_option maxHeartbeats 4000000 in
theorem alike_walk (w : World) (t : List UInt8) (A : Option Addr) (n c : Nat) (l : List OpT) (ht : t.length ≤ maxLen) (hl : Ro w A n c l) (_hok : ∀ o ∈ l, okO o)
    (PA : Option Addr) (pn pc : Nat) (ps : List (List UInt8)) (hp : Rp w PA pn pc ps) (PB : Option Addr) (pm pd : Nat) (ps2 : List (List UInt8)) (hp2 : Rp w PB pm pd ps2) :
    Calls Try.prog 6 #[pAgg t A n c, .slice PA pn pc, .slice PB pm pd] w (Yes w) := by
  have hcut := fun W => pcut_any W t A n c 40 ht hl.max
  have hl' := hl.min_ 40
  have htl : (t.take 40).length ≤ 1099511627776 := by rw [List.length_take]; omega
  have hpr := fun W e => presses_any w W e PA pn pc ps 8 hp (by decide)
  have hpr2 := fun W e => presses_any w W e PB pm pd ps2 8 hp2 (by decide)
  obtain ⟨Q, hQ⟩ : ∃ Q, (ps.take 8).map (·.take 9) = Q := ⟨_, rfl⟩
  obtain ⟨Q2, hQ2⟩ : ∃ Q, (ps2.take 8).map (·.take 9) = Q := ⟨_, rfl⟩
  have hQl : Q.length ≤ 8 := by subst hQ; simp; omega
  have hQl2 : Q2.length ≤ 8 := by subst hQ2; simp; omega
  unfold PressesOf at hpr hpr2
  rw [hQ] at hpr
  rw [hQ2] at hpr2
  unfold pAgg at hcut ⊢
  have hnl := hl'.len
  have hll : (l.take 40).length ≤ 40 := by rw [List.length_take]; omega
  have Hcut := Lib.hid hcut
  have Hpr := Lib.hid hpr
  have Hpr2 := Lib.hid hpr2
  clear hcut hpr hpr2 hl hQ hQ2 _hok
  generalize t.take 40 = t' at *
  generalize l.take 40 = l' at *
  generalize min n 40 = n' at *
  go_enter Try.func6, Try.ntmps6
  go_wp2_with fail
  refine (begun20_any _).mono ?_
  rintro e w1 ⟨rfl, e1⟩
  have c0 := e1.cell (show (w.alloc (.cells #[.string (bs t), .slice A n c] 24)).cell? ⟨w.heap.size, 0, none⟩ = some (.string (bs t)) by go_simp)
  have c1 := e1.cell (show (w.alloc (.cells #[.string (bs t), .slice A n c] 24)).cell? ⟨w.heap.size, 1, none⟩ = some (.slice A n c) by go_simp)
  have f0 : w1.frozen? ⟨w.heap.size, 0, none⟩ = false := by rw [e1.frozen (by simp)]; go_simp
  have f1 : w1.frozen? ⟨w.heap.size, 1, none⟩ = false := by rw [e1.frozen (by simp)]; go_simp
  have x1 := (Ext.alloc w _).trans e1
  have s1 : w.heap.size < w1.heap.size := World.block_lt_of_cell? w1 _ c0
  clear e1
  go_wp2_with fail
  refine (Hcut.out _).mono ?_
  rintro e w2 ⟨rfl, e2⟩
  have c0 := e2.cell c0
  have c1 := e2.cell c1
  have f0 : w2.frozen? ⟨w.heap.size, 0, none⟩ = false := by rw [e2.frozen s1]; exact f0
  have f1 : w2.frozen? ⟨w.heap.size, 1, none⟩ = false := by rw [e2.frozen s1]; exact f1
  have x2 := x1.trans e2
  have s2 : w.heap.size < w2.heap.size := World.block_lt_of_cell? w2 _ c0
  clear e2 s1 x1
  go_wp2_with fail
  refine (Hpr.out _ x2).mono ?_
  rintro e w3 ⟨B, m0, cp0, rfl, q0, e3⟩
  have c0 := e3.cell c0
  have c1 := e3.cell c1
  have f0 : w3.frozen? ⟨w.heap.size, 0, none⟩ = false := by rw [e3.frozen s2]; exact f0
  have f1 : w3.frozen? ⟨w.heap.size, 1, none⟩ = false := by rw [e3.frozen s2]; exact f1
  have x3 := x2.trans e3
  have s3 : w.heap.size < w3.heap.size := World.block_lt_of_cell? w3 _ c0
  go_wp2_with fail
  refine (Hpr2.out _ x3).mono ?_
  rintro e w4 ⟨C, m1, cp1, rfl, q1, e4⟩
  have c0 := e4.cell c0
  have c1 := e4.cell c1
  have f0 : w4.frozen? ⟨w.heap.size, 0, none⟩ = false := by rw [e4.frozen s3]; exact f0
  have f1 : w4.frozen? ⟨w.heap.size, 1, none⟩ = false := by rw [e4.frozen s3]; exact f1
  have x4 := x3.trans e4
  have s4 : w.heap.size < w4.heap.size := World.block_lt_of_cell? w4 _ c0
  have q0 := q0.ext e4
  have hm := q0.rp.len
  have hmx := q0.rp.max
  have hm2 := q1.rp.len
  have hmx2 := q1.rp.max
  unfold maxLen at hmx hmx2
  subst hm hm2
  go_wp2_with fail
  generalize hW0 : World.setCell (World.setCell w4 _ _) _ _ = W0
  have x0 : Ext w W0 := by subst hW0; exact (x4.setCell (Nat.le_refl _) _).setCell (Nat.le_refl _) _
  have d0 : W0.cell? ⟨w.heap.size, 0, none⟩ = some (.string (bs t')) := by subst hW0; go_simp
  have d1 : W0.cell? ⟨w.heap.size, 1, none⟩ = some (.slice A n' c) := by subst hW0; go_simp
  have r0 : Rp W0 B Q.length cp0 Q := by subst hW0; exact ((q0.keep (grown_setG _ _ _ _) (Nat.le_refl _) s2).keep (grown_setG _ _ _ _) (Nat.le_refl _) s2).rp
  have r1 : Rp W0 C Q2.length cp1 Q2 := by subst hW0; exact ((q1.keep (grown_setG _ _ _ _) (Nat.le_refl _) s3).keep (grown_setG _ _ _ _) (Nat.le_refl _) s3).rp
  clear hW0 c0 c1 f0 f1 x2 x3 s3 e3 x4 s4 e4 Hcut Hpr Hpr2 q0 q1
  have hmax := hl'.max
  unfold maxLen at hmax
  subst hnl
  go_loopw [8] (fun iv wr => flRel w l' Q Q2 w.heap.size t' A l'.length c B C cp0 cp1 iv wr) (fun iv _ => l'.length - (intOf iv).toNat)
  case atStart => exact ⟨0, rfl, by omega, d0, d1, r0, r1, by simp, x0⟩
  case round =>
    obtain ⟨k, rfl, hk, d0, d1, rk, rk2, hno, xk⟩ := hrel
    by_cases hlt : k < l'.length
    · have hd : decide (k < l'.length) = true := decide_eq_true hlt
      obtain ⟨ob, oo, rfl, o0, _⟩ := hl'.at_ hlt
      have o0 := xk.cell o0
      by_cases h11 : (l'[k]).1 = 11
      · have hq : ((l'[k]).1 == 11) = true := by rw [beq_iff_eq]; exact h11
        go_wp2_with fail
        go_ret
        exact ⟨rfl, xk⟩
      · have hq : ((l'[k]).1 == 11) = false := by rw [beq_eq_false_iff_ne]; exact h11
        have hno2 : ∀ o ∈ l'.take (k + 1), o.1 ≠ 11 := by
          intro o ho
          rw [List.take_succ_eq_append_getElem hlt] at ho
          rcases List.mem_append.1 ho with h | h
          · exact hno o h
          · rw [List.mem_singleton.1 h]; exact h11
        have Hno := Lib.hid hno2
        clear hno hno2
        go_wp2_with fail
        go_roundw
        case rel => exact ⟨k + 1, by go_num, hlt, d0, d1, rk, rk2, Hno.out, xk⟩
        case measure => simp [intOf]; omega
    · have hd : decide (k < l'.length) = false := decide_eq_false hlt
      have hkl : k = l'.length := by omega
      subst hkl
      rw [List.take_length] at hno
      have Hno := Lib.hid hno
      clear hno
      rcases Nat.lt_trichotomy Q.length Q2.length with hc | hc | hc
      · have hc1 : ¬ Q2.length < Q.length := by omega
        have hc2 : ¬ Q2.length = Q.length := by omega
        have hma : Q.length ≤ Q.length := by omega
        have hmb : Q.length ≤ Q2.length := by omega
        have hmc : Q.length ≤ cp0 := by omega
        have hmd : Q.length ≤ cp1 := by omega
        have ha1 := fun W h1 h2 => all_any W t' A l'.length c l' B (Q.length) cp0 (Q.take (Q.length)) htl h1 h2 (by rw [List.length_take]; omega)
        have ha2 := fun W h1 h2 => all_any W t' A l'.length c l' C (Q.length) cp1 (Q2.take (Q.length)) htl h1 h2 (by rw [List.length_take]; omega)
        rw [foldN_alike Hno.out (Q2.take (Q.length)) (Q.take (Q.length)) 0 zeroG (by rw [List.length_take, List.length_take]; omega)] at ha2
        have Hg2 := Lib.hid (foldN_ok t' l' (Q.take (Q.length)) 0 zeroG_ok).1
        generalize foldN t' l' 0 zeroG (Q.take (Q.length)) = G1 at *
        unfold pAgg at ha1 ha2
        have Ha1 := Lib.hid ha1
        have Ha2 := Lib.hid ha2
        clear ha1 ha2
        have heq := fun W => eq_game W Hg2.out
        have hgu := guard_game
        go_wp2_with fail
        apply wp_region_lex (R := Ext) (by kernel_rfl) (by kernel_rfl) Ext.refl (fun _ _ _ => Ext.trans) (Ext.drew _)
        repeat
          apply lex_ex Ext.refl
          · rfl
          · intro W' hR hΦ
            have d2 := hR.cell d0
            have d3 := hR.cell d1
            first
              | (go_simp; first | done | with_reducible rfl)
          simp only [Act.put, List.setIfInBounds_toArray, List.set_cons_zero, List.set_cons_succ]
        apply lex_callx
        · rfl
        · intro W'
          go_simp
          exact ⟨rfl, rfl⟩
        · intro W' hR hΦ
          exact (Ha1.out _ (hl'.ext (xk.trans hR)) (by simpa using (rk.take hma).ext hR)).mono fun _ _ h => h
        simp only [Act.put, List.setIfInBounds_toArray, List.set_cons_zero, List.set_cons_succ]
        repeat
          apply lex_ex Ext.refl
          · rfl
          · intro W' hR hΦ
            have d2 := hR.cell d0
            have d3 := hR.cell d1
            first
              | (go_simp; first | done | with_reducible rfl)
          simp only [Act.put, List.setIfInBounds_toArray, List.set_cons_zero, List.set_cons_succ]
        apply lex_callx
        · rfl
        · intro W'
          go_simp
          exact ⟨rfl, rfl⟩
        · intro W' hR hΦ
          exact (Ha2.out _ (hl'.ext (xk.trans hR)) (by simpa using (rk2.take hmb).ext hR)).mono fun _ _ h => h
        simp only [Act.put, List.setIfInBounds_toArray, List.set_cons_zero, List.set_cons_succ]
        repeat
          apply lex_ex Ext.refl
          · rfl
          · intro W' hR hΦ
            have d2 := hR.cell d0
            have d3 := hR.cell d1
            first
              | (go_simp; first | done | with_reducible rfl)
          simp only [Act.put, List.setIfInBounds_toArray, List.set_cons_zero, List.set_cons_succ]
        refine lex_nil ?_
        intro W8 hR8 hΦ
        clear hΦ
        go_wp2_with fail
        go_ret
        exact ⟨rfl, xk.trans hR8⟩
      · have hc1 : ¬ Q2.length < Q.length := by omega
        have hc2 : ¬ Q.length < Q2.length := by omega
        have hma : Q2.length ≤ Q.length := by omega
        have hmb : Q2.length ≤ Q2.length := by omega
        have hmc : Q2.length ≤ cp0 := by omega
        have hmd : Q2.length ≤ cp1 := by omega
        have ha1 := fun W h1 h2 => all_any W t' A l'.length c l' B (Q2.length) cp0 (Q.take (Q2.length)) htl h1 h2 (by rw [List.length_take]; omega)
        have ha2 := fun W h1 h2 => all_any W t' A l'.length c l' C (Q2.length) cp1 (Q2.take (Q2.length)) htl h1 h2 (by rw [List.length_take]; omega)
        rw [foldN_alike Hno.out (Q2.take (Q2.length)) (Q.take (Q2.length)) 0 zeroG (by rw [List.length_take, List.length_take]; omega)] at ha2
        have Hg2 := Lib.hid (foldN_ok t' l' (Q.take (Q2.length)) 0 zeroG_ok).1
        generalize foldN t' l' 0 zeroG (Q.take (Q2.length)) = G1 at *
        unfold pAgg at ha1 ha2
        have Ha1 := Lib.hid ha1
        have Ha2 := Lib.hid ha2
        clear ha1 ha2
        have heq := fun W => eq_game W Hg2.out
        have hgu := guard_game
        go_wp2_with fail
        apply wp_region_lex (R := Ext) (by kernel_rfl) (by kernel_rfl) Ext.refl (fun _ _ _ => Ext.trans) (Ext.drew _)
        repeat
          apply lex_ex Ext.refl
          · rfl
          · intro W' hR hΦ
            have d2 := hR.cell d0
            have d3 := hR.cell d1
            first
              | (go_simp; first | done | with_reducible rfl)
          simp only [Act.put, List.setIfInBounds_toArray, List.set_cons_zero, List.set_cons_succ]
        apply lex_callx
        · rfl
        · intro W'
          go_simp
          exact ⟨rfl, rfl⟩
        · intro W' hR hΦ
          exact (Ha1.out _ (hl'.ext (xk.trans hR)) (by simpa using (rk.take hma).ext hR)).mono fun _ _ h => h
        simp only [Act.put, List.setIfInBounds_toArray, List.set_cons_zero, List.set_cons_succ]
        repeat
          apply lex_ex Ext.refl
          · rfl
          · intro W' hR hΦ
            have d2 := hR.cell d0
            have d3 := hR.cell d1
            first
              | (go_simp; first | done | with_reducible rfl)
          simp only [Act.put, List.setIfInBounds_toArray, List.set_cons_zero, List.set_cons_succ]
        apply lex_callx
        · rfl
        · intro W'
          go_simp
          exact ⟨rfl, rfl⟩
        · intro W' hR hΦ
          exact (Ha2.out _ (hl'.ext (xk.trans hR)) (by simpa using (rk2.take hmb).ext hR)).mono fun _ _ h => h
        simp only [Act.put, List.setIfInBounds_toArray, List.set_cons_zero, List.set_cons_succ]
        repeat
          apply lex_ex Ext.refl
          · rfl
          · intro W' hR hΦ
            have d2 := hR.cell d0
            have d3 := hR.cell d1
            first
              | (go_simp; first | done | with_reducible rfl)
          simp only [Act.put, List.setIfInBounds_toArray, List.set_cons_zero, List.set_cons_succ]
        refine lex_nil ?_
        intro W8 hR8 hΦ
        clear hΦ
        go_wp2_with fail
        go_ret
        exact ⟨rfl, xk.trans hR8⟩
      · have hc1 : ¬ Q.length < Q2.length := by omega
        have hc2 : ¬ Q.length = Q2.length := by omega
        have hma : Q2.length ≤ Q.length := by omega
        have hmb : Q2.length ≤ Q2.length := by omega
        have hmc : Q2.length ≤ cp0 := by omega
        have hmd : Q2.length ≤ cp1 := by omega
        have ha1 := fun W h1 h2 => all_any W t' A l'.length c l' B (Q2.length) cp0 (Q.take (Q2.length)) htl h1 h2 (by rw [List.length_take]; omega)
        have ha2 := fun W h1 h2 => all_any W t' A l'.length c l' C (Q2.length) cp1 (Q2.take (Q2.length)) htl h1 h2 (by rw [List.length_take]; omega)
        rw [foldN_alike Hno.out (Q2.take (Q2.length)) (Q.take (Q2.length)) 0 zeroG (by rw [List.length_take, List.length_take]; omega)] at ha2
        have Hg2 := Lib.hid (foldN_ok t' l' (Q.take (Q2.length)) 0 zeroG_ok).1
        generalize foldN t' l' 0 zeroG (Q.take (Q2.length)) = G1 at *
        unfold pAgg at ha1 ha2
        have Ha1 := Lib.hid ha1
        have Ha2 := Lib.hid ha2
        clear ha1 ha2
        have heq := fun W => eq_game W Hg2.out
        have hgu := guard_game
        go_wp2_with fail
        apply wp_region_lex (R := Ext) (by kernel_rfl) (by kernel_rfl) Ext.refl (fun _ _ _ => Ext.trans) (Ext.drew _)
        repeat
          apply lex_ex Ext.refl
          · rfl
          · intro W' hR hΦ
            have d2 := hR.cell d0
            have d3 := hR.cell d1
            first
              | (go_simp; first | done | with_reducible rfl)
          simp only [Act.put, List.setIfInBounds_toArray, List.set_cons_zero, List.set_cons_succ]
        apply lex_callx
        · rfl
        · intro W'
          go_simp
          exact ⟨rfl, rfl⟩
        · intro W' hR hΦ
          exact (Ha1.out _ (hl'.ext (xk.trans hR)) (by simpa using (rk.take hma).ext hR)).mono fun _ _ h => h
        simp only [Act.put, List.setIfInBounds_toArray, List.set_cons_zero, List.set_cons_succ]
        repeat
          apply lex_ex Ext.refl
          · rfl
          · intro W' hR hΦ
            have d2 := hR.cell d0
            have d3 := hR.cell d1
            first
              | (go_simp; first | done | with_reducible rfl)
          simp only [Act.put, List.setIfInBounds_toArray, List.set_cons_zero, List.set_cons_succ]
        apply lex_callx
        · rfl
        · intro W'
          go_simp
          exact ⟨rfl, rfl⟩
        · intro W' hR hΦ
          exact (Ha2.out _ (hl'.ext (xk.trans hR)) (by simpa using (rk2.take hmb).ext hR)).mono fun _ _ h => h
        simp only [Act.put, List.setIfInBounds_toArray, List.set_cons_zero, List.set_cons_succ]
        repeat
          apply lex_ex Ext.refl
          · rfl
          · intro W' hR hΦ
            have d2 := hR.cell d0
            have d3 := hR.cell d1
            first
              | (go_simp; first | done | with_reducible rfl)
          simp only [Act.put, List.setIfInBounds_toArray, List.set_cons_zero, List.set_cons_succ]
        refine lex_nil ?_
        intro W8 hR8 hΦ
        clear hΦ
        go_wp2_with fail
        go_ret
        exact ⟨rfl, xk.trans hR8⟩
end Go.Proofs.Ytihegdjdgklbgaa
