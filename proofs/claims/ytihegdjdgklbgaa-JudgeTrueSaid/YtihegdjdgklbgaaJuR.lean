/- The walk of judge.Right. -/
import Derived.Test.YtihegdjdgklbgaaJuT
namespace Go.Proofs.Ytihegdjdgklbgaa
set_option maxRecDepth 100000
open Go.RowKit
set_option linter.unusedVariables false

set_option maxHeartbeats 4000000 in
theorem right_any (w : World) (t : List UInt8) (A : Option Addr) (n c : Nat) (l : List OpT) (ht : t.length ≤ 1099511627776) (hl : Ro w A n c l)
    (PA : Option Addr) (pn pc : Nat) (f : Int) (B : Option Addr) (m d : Nat) (ps : List (List UInt8)) (g : List UInt8) (hp : Rp w PA pn pc ps) (hg : Rb w B m d g) (hps : ps.length ≤ 1000) :
    Calls Try.prog 23 #[pAgg t A n c, tAgg PA pn pc f B m d] w (IsB w (rightT t l (ps, f, g))) := by
  have hn := hp.len
  have hmx := hp.max
  unfold maxLen at hmx
  have hm1 := fun W => may_told W PA pn pc f B m d
  unfold tAgg at hm1 ⊢
  unfold pAgg
  have Hm1 := Lib.hid hm1
  clear hm1
  cases h1 : (decide (0 ≤ f) && decide (f ≤ (pn : Int)))
  · rw [h1] at Hm1
    have hag : rightT t l (ps, f, g) = false := by
      have : mayT (ps, f, g) = false := by unfold mayT; rw [← hn]; exact h1
      unfold rightT; rw [this]; rfl
    rw [hag]
    clear hag hn
    go_enter Try.func23, Try.ntmps23
    go_wp2_with fail
    generalize hV : World.alloc (World.alloc w _) _ = w2
    have x2 : Ext w w2 := by subst hV; exact (Ext.alloc _ _).trans (Ext.alloc _ _)
    have c0 : w2.cell? ⟨w.heap.size, 0, none⟩ = some (.string (bs t)) := by subst hV; go_simp
    have c1 : w2.cell? ⟨w.heap.size, 1, none⟩ = some (.slice A n c) := by subst hV; go_simp
    have c2 : w2.cell? ⟨w.heap.size + 1, 0, none⟩ = some (.slice PA pn pc) := by subst hV; go_simp
    have c3 : w2.cell? ⟨w.heap.size + 1, 1, none⟩ = some (.int .i64 f) := by subst hV; go_simp
    have c4 : w2.cell? ⟨w.heap.size + 1, 2, none⟩ = some (.slice B m d) := by subst hV; go_simp
    have c5 := c4
    clear hV
    apply wp_region_lex (R := Ext) (by kernel_rfl) (by kernel_rfl) Ext.refl (fun _ _ _ => Ext.trans) (Ext.drew _)
    repeat
      first
        | (apply lex_ex Ext.refl
           · rfl
           · intro W' hR hΦ
             have y0 := hR.cell c0
             have y1 := hR.cell c1
             have y2 := hR.cell c2
             have y3 := hR.cell c3
             have y4 := hR.cell c4
             have y5 := hR.cell c5
             go_simp
             first | done | with_reducible rfl)
        | (apply lex_skip
           · rfl)
      simp only [Act.put, List.setIfInBounds_toArray, List.set_cons_zero, List.set_cons_succ]
    apply lex_callx
    · rfl
    · intro W'
      go_simp
      exact ⟨rfl, rfl⟩
    · intro W' hR hΦ
      exact (Hm1.out W').mono fun _ _ h => h
    simp only [Act.put, List.setIfInBounds_toArray, List.set_cons_zero, List.set_cons_succ]
    repeat
      first
        | (apply lex_ex Ext.refl
           · rfl
           · intro W' hR hΦ
             have y0 := hR.cell c0
             have y1 := hR.cell c1
             have y2 := hR.cell c2
             have y3 := hR.cell c3
             have y4 := hR.cell c4
             have y5 := hR.cell c5
             go_simp
             first | done | with_reducible rfl)
        | (apply lex_skip
           · rfl)
      simp only [Act.put, List.setIfInBounds_toArray, List.set_cons_zero, List.set_cons_succ]
    refine lex_nil ?_
    intro W5 hR5 hΦ
    clear hΦ
    go_wp2_with fail
    go_ret
    exact ⟨rfl, x2.trans hR5⟩
  rw [h1] at Hm1
  have hf : 0 ≤ f ∧ f ≤ (pn : Int) := by simpa using h1
  obtain ⟨k, rfl⟩ := Int.eq_ofNat_of_zero_le hf.1
  have hkn : k ≤ pn := by omega
  have hag : rightT t l (ps, (k : Int), g) = (g == gameL (foldN t l 0 zeroG (ps.take k))) := by
    have m1 : mayT (ps, (k : Int), g) = true := by unfold mayT; simp; omega
    unfold rightT
    rw [m1]
    simp
  have Hag := Lib.hid hag
  have hkc : k ≤ pc := by omega
  have hal := fun W h1 h2 => all_any W t A n c l PA k pc (ps.take k) ht h1 h2 (by rw [List.length_take]; omega)
  unfold pAgg at hal
  have hok := foldN_ok t l (ps.take k) 0 zeroG_ok
  have hen := fun W => sencode_any W _ hok
  have Hal := Lib.hid hal
  have Hen := Lib.hid hen
  clear hag hal hen hok h1 hf hn
  generalize foldN t l 0 zeroG (ps.take k) = G at *
  go_enter Try.func23, Try.ntmps23
  go_wp2_with fail
  generalize hV : World.alloc (World.alloc w _) _ = w2
  have x2 : Ext w w2 := by subst hV; exact (Ext.alloc _ _).trans (Ext.alloc _ _)
  have c0 : w2.cell? ⟨w.heap.size, 0, none⟩ = some (.string (bs t)) := by subst hV; go_simp
  have c1 : w2.cell? ⟨w.heap.size, 1, none⟩ = some (.slice A n c) := by subst hV; go_simp
  have c2 : w2.cell? ⟨w.heap.size + 1, 0, none⟩ = some (.slice PA pn pc) := by subst hV; go_simp
  have c3 : w2.cell? ⟨w.heap.size + 1, 1, none⟩ = some (.int .i64 (k : Nat)) := by subst hV; go_simp
  have c4 : w2.cell? ⟨w.heap.size + 1, 2, none⟩ = some (.slice B m d) := by subst hV; go_simp
  have c5 := c4
  clear hV
  apply wp_region_lex (R := Ext) (by kernel_rfl) (by kernel_rfl) Ext.refl (fun _ _ _ => Ext.trans) (Ext.drew _)
  repeat
    first
      | (apply lex_ex Ext.refl
         · rfl
         · intro W' hR hΦ
           have y0 := hR.cell c0
           have y1 := hR.cell c1
           have y2 := hR.cell c2
           have y3 := hR.cell c3
           have y4 := hR.cell c4
           have y5 := hR.cell c5
           go_simp
           first | done | with_reducible rfl)
      | (apply lex_skip
         · rfl)
    simp only [Act.put, List.setIfInBounds_toArray, List.set_cons_zero, List.set_cons_succ]
  apply lex_callx
  · rfl
  · intro W'
    go_simp
    exact ⟨rfl, rfl⟩
  · intro W' hR hΦ
    exact (Hm1.out W').mono fun _ _ h => h
  simp only [Act.put, List.setIfInBounds_toArray, List.set_cons_zero, List.set_cons_succ]
  repeat
    first
      | (apply lex_ex Ext.refl
         · rfl
         · intro W' hR hΦ
           have y0 := hR.cell c0
           have y1 := hR.cell c1
           have y2 := hR.cell c2
           have y3 := hR.cell c3
           have y4 := hR.cell c4
           have y5 := hR.cell c5
           go_simp
           first | done | with_reducible rfl)
      | (apply lex_skip
         · rfl)
    simp only [Act.put, List.setIfInBounds_toArray, List.set_cons_zero, List.set_cons_succ]
  apply lex_callx
  · rfl
  · intro W'
    go_simp
    exact ⟨rfl, rfl⟩
  · intro W' hR hΦ
    exact (Hal.out _ (hl.ext (x2.trans hR)) (((hp.ext x2).ext hR).take hkn)).mono fun _ _ h => h
  simp only [Act.put, List.setIfInBounds_toArray, List.set_cons_zero, List.set_cons_succ]
  apply lex_call (p := fun u W => ∃ B' d', u = .slice B' 128 d' ∧ Rb W B' 128 d' (gameL G)) (fun _ _ _ ⟨B', d', h1, h2⟩ e => ⟨B', d', h1, h2.ext e⟩)
  · rfl
  · intro W'
    go_simp
    exact ⟨rfl, rfl⟩
  · intro W' hR hΦ
    refine (Hen.out W').mono ?_
    rintro e w' ⟨B', d', rfl, h1, h2⟩
    exact ⟨_, rfl, h2, B', d', rfl, h1⟩
  intro ev
  simp only [Act.put, List.setIfInBounds_toArray, List.set_cons_zero, List.set_cons_succ]
  apply lex_callx
  · rfl
  · intro W'
    go_simp
    exact ⟨rfl, rfl⟩
  · intro W' hR hΦ
    obtain ⟨B', d', rfl, hr⟩ := hΦ.1 rfl
    refine (bytes_eq W' B m d g B' 128 d' (gameL G) ((hg.ext x2).ext hR) hr).mono ?_
    rintro e w' ⟨rfl, rfl⟩
    exact ⟨rfl, Ext.refl _⟩
  simp only [Act.put, List.setIfInBounds_toArray, List.set_cons_zero, List.set_cons_succ]
  repeat
    first
      | (apply lex_ex Ext.refl
         · rfl
         · intro W' hR hΦ
           have y0 := hR.cell c0
           have y1 := hR.cell c1
           have y2 := hR.cell c2
           have y3 := hR.cell c3
           have y4 := hR.cell c4
           have y5 := hR.cell c5
           go_simp
           first | done | with_reducible rfl)
      | (apply lex_skip
         · rfl)
    simp only [Act.put, List.setIfInBounds_toArray, List.set_cons_zero, List.set_cons_succ]
  refine lex_nil ?_
  intro W5 hR5 hΦ
  clear hΦ
  go_wp2_with fail
  go_ret
  exact ⟨by rw [Hag.out]; rfl, x2.trans hR5⟩
end Go.Proofs.Ytihegdjdgklbgaa
