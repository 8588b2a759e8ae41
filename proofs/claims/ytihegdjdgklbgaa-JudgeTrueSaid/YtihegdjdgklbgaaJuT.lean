/- What players told: the walks of judge.may, judge.agree, judge.Right. -/
import Derived.Test.YtihegdjdgklbgaaJuE
namespace Go.Proofs.Ytihegdjdgklbgaa
set_option maxRecDepth 100000
open Go.RowKit
set_option linter.unusedVariables false

/-- Presses, a front, a game's bytes. -/
abbrev ToldT := List (List UInt8) × Int × List UInt8
def mayT (t : ToldT) : Bool := decide (0 ≤ t.2.1) && decide (t.2.1 ≤ (t.1.length : Int))
def agreeT (a b : ToldT) : Bool := mayT a && mayT b && (a.1.take (min a.2.1 b.2.1).toNat == b.1.take (min a.2.1 b.2.1).toNat) && (a.2.1 != b.2.1 || a.2.2 == b.2.2)
def rightT (t : List UInt8) (l : List OpT) (x : ToldT) : Bool := mayT x && x.2.2 == gameL (foldN t l 0 zeroG (x.1.take x.2.1.toNat))
def tAgg (A : Option Addr) (n c : Nat) (f : Int) (B : Option Addr) (m d : Nat) : Value := .agg #[.slice A n c, .int .i64 f, .slice B m d]
def IsB (w : World) (b : Bool) (e : Ending) (w' : World) : Prop := e = .returned (.bool b) ∧ Ext w w'
theorem may_told (w : World) (A : Option Addr) (n c : Nat) (f : Int) (B : Option Addr) (m d : Nat) : Calls Try.prog 38 #[tAgg A n c f B m d] w (IsB w (decide (0 ≤ f) && decide (f ≤ (n : Int)))) := by
  unfold tAgg
  by_cases h : 0 ≤ f
  · have hd : decide (0 ≤ f) = true := decide_eq_true h
    rw [hd]
    go_enter Try.func38, Try.ntmps38
    go_wp2_with fail
    go_ret
    exact ⟨by simp, Ext.alloc _ _⟩
  · have hd : decide (0 ≤ f) = false := decide_eq_false h
    rw [hd]
    go_enter Try.func38, Try.ntmps38
    go_wp2_with fail
    go_ret
    exact ⟨rfl, Ext.alloc _ _⟩
set_option maxHeartbeats 4000000 in
theorem jagree_any (w : World) (A : Option Addr) (n c : Nat) (f : Int) (B : Option Addr) (m d : Nat) (A' : Option Addr) (n' c' : Nat) (f' : Int) (B' : Option Addr) (m' d' : Nat) (ps ps' : List (List UInt8)) (g g' : List UInt8)
    (hp : Rp w A n c ps) (hg : Rb w B m d g) (hp' : Rp w A' n' c' ps') (hg' : Rb w B' m' d' g') :
    Calls Try.prog 41 #[tAgg A n c f B m d, tAgg A' n' c' f' B' m' d'] w (IsB w (agreeT (ps, f, g) (ps', f', g'))) := by
  have hn := hp.len
  have hn' := hp'.len
  have hmx := hp.max
  have hmx' := hp'.max
  unfold maxLen at hmx hmx'
  have hm1 := fun W => may_told W A n c f B m d
  have hm2 := fun W => may_told W A' n' c' f' B' m' d'
  unfold tAgg at hm1 hm2 ⊢
  have Hm1 := Lib.hid hm1
  have Hm2 := Lib.hid hm2
  clear hm1 hm2
  cases h1 : (decide (0 ≤ f) && decide (f ≤ (n : Int)))
  · rw [h1] at Hm1
    have hag : agreeT (ps, f, g) (ps', f', g') = false := by
      have : mayT (ps, f, g) = false := by unfold mayT; rw [← hn]; exact h1
      unfold agreeT; rw [this]; rfl
    rw [hag]
    clear hag hn hn'
    go_enter Try.func41, Try.ntmps41
    go_wp2_with fail
    refine (Hm1.out _).mono ?_
    rintro e w1 ⟨rfl, e1⟩
    go_wp2_with fail
    go_ret
    exact ⟨rfl, ((Ext.alloc _ _).trans (Ext.alloc _ _)).trans e1⟩
  rw [h1] at Hm1
  cases h2 : (decide (0 ≤ f') && decide (f' ≤ (n' : Int)))
  · rw [h2] at Hm2
    have hag : agreeT (ps, f, g) (ps', f', g') = false := by
      have : mayT (ps', f', g') = false := by unfold mayT; rw [← hn']; exact h2
      unfold agreeT; rw [this]; simp
    rw [hag]
    clear hag hn hn'
    go_enter Try.func41, Try.ntmps41
    go_wp2_with fail
    generalize hV : World.alloc (World.alloc w _) _ = V
    have eV : Ext w V := by subst hV; exact (Ext.alloc _ _).trans (Ext.alloc _ _)
    have c3 : V.cell? ⟨w.heap.size + 1, 0, none⟩ = some (.slice A' n' c') := by subst hV; go_simp
    have c4 : V.cell? ⟨w.heap.size + 1, 1, none⟩ = some (.int .i64 f') := by subst hV; go_simp
    have c5 : V.cell? ⟨w.heap.size + 1, 2, none⟩ = some (.slice B' m' d') := by subst hV; go_simp
    clear hV
    refine (Hm1.out _).mono ?_
    rintro e w1 ⟨rfl, e1⟩
    have c3 := e1.cell c3
    have c4 := e1.cell c4
    have c5 := e1.cell c5
    go_wp2_with fail
    refine (Hm2.out _).mono ?_
    rintro e w2 ⟨rfl, e2⟩
    go_wp2_with fail
    go_ret
    exact ⟨rfl, (eV.trans e1).trans e2⟩
  rw [h2] at Hm2
  have hf : 0 ≤ f ∧ f ≤ (n : Int) := by simpa using h1
  have hf' : 0 ≤ f' ∧ f' ≤ (n' : Int) := by simpa using h2
  obtain ⟨k, rfl⟩ := Int.eq_ofNat_of_zero_le hf.1
  obtain ⟨k', rfl⟩ := Int.eq_ofNat_of_zero_le hf'.1
  have hkn : k ≤ n := by omega
  have hkn' : k' ≤ n' := by omega
  have Hn := Lib.hid hn
  have Hn' := Lib.hid hn'
  clear h1 h2 hf hf' hn hn'
  go_enter Try.func41, Try.ntmps41
  go_wp2_with fail
  generalize hV : World.alloc (World.alloc w _) _ = V
  have eV : Ext w V := by subst hV; exact (Ext.alloc _ _).trans (Ext.alloc _ _)
  have c0 : V.cell? ⟨w.heap.size, 0, none⟩ = some (.slice A n c) := by subst hV; go_simp
  have c1 : V.cell? ⟨w.heap.size, 1, none⟩ = some (.int .i64 (k : Nat)) := by subst hV; go_simp
  have c2 : V.cell? ⟨w.heap.size, 2, none⟩ = some (.slice B m d) := by subst hV; go_simp
  have c3 : V.cell? ⟨w.heap.size + 1, 0, none⟩ = some (.slice A' n' c') := by subst hV; go_simp
  have c4 : V.cell? ⟨w.heap.size + 1, 1, none⟩ = some (.int .i64 (k' : Nat)) := by subst hV; go_simp
  have c5 : V.cell? ⟨w.heap.size + 1, 2, none⟩ = some (.slice B' m' d') := by subst hV; go_simp
  clear hV
  refine (Hm1.out _).mono ?_
  rintro e w1 ⟨rfl, e1⟩
  have c3 := e1.cell c3
  have c4 := e1.cell c4
  have c5 := e1.cell c5
  go_wp2_with fail
  refine (Hm2.out _).mono ?_
  rintro e w2 ⟨rfl, e2⟩
  have c0 := e2.cell (e1.cell c0)
  have c1 := e2.cell (e1.cell c1)
  have c2 := e2.cell (e1.cell c2)
  have c3 := e2.cell c3
  have c4 := e2.cell c4
  have c5 := e2.cell c5
  have x2 := (eV.trans e1).trans e2
  clear eV e1 e2 Hm1 Hm2
  rcases Nat.lt_trichotomy k k' with hc | hc | hc
  · have hq : ((k : Int) != (k' : Int)) = true := by rw [bne_iff_ne]; omega
    have hc1 : ¬ k' < k := by omega
    have hc2 : ¬ k' = k := by omega
    have hc3 : ¬ k = k' := by omega
    have hE : Calls Try.prog 48 #[.slice A k c, .slice A' k c', .func (.func 39) #[] #[]] w2 fun e w' => e = .returned (.bool (ps.take k == ps'.take k)) ∧ w' = w2 := equalfunc_any w2 A k c _ A' k c' _ ((hp.ext x2).take (by omega)) ((hp'.ext x2).take (by omega))
    have hE2 := fun W (hR : Ext w2 W) => equalfunc_any W A k c _ A' k c' _ (((hp.ext x2).ext hR).take (k := k) (by omega)) (((hp'.ext x2).ext hR).take (k := k) (by omega))
    have hag : agreeT (ps, (k : Int), g) (ps', (k' : Int), g') = ((ps.take k == ps'.take k) && ((k : Int) != (k' : Int) || g == g')) := by
      have e1 : (min (k : Int) (k' : Int)).toNat = k := by omega
      have m1 : mayT (ps, (k : Int), g) = true := by have := Hn.out; unfold mayT; simp; omega
      have m2 : mayT (ps', (k' : Int), g') = true := by have := Hn'.out; unfold mayT; simp; omega
      unfold agreeT
      rw [m1, m2]
      simp only [e1, Bool.true_and]
    have Hag := Lib.hid hag
    have hmc : k ≤ c := by omega
    have hmc' : k ≤ c' := by omega
    clear hE hag
    go_wp2_with fail
    generalize hb : (ps.take k == ps'.take k) = E at *
    have HE := Lib.hid hE2
    clear hE2
    cases E
    · apply wp_region_lex (R := Ext) (by kernel_rfl) (by kernel_rfl) Ext.refl (fun _ _ _ => Ext.trans) (Ext.drew _)
      repeat
        first
          | (apply lex_ex Ext.refl
             · rfl
             · intro W' hR hΦ
               have y0 := hR.cell c0
               have y1 := hR.cell c1
               have y2 := hR.cell c2
               have y3 := hR.cell c3
               have y4 := hR.cell c4
               have y5 := hR.cell c5
               go_simp
               first | done | with_reducible rfl)
          | (apply lex_skip
             · rfl)
        simp only [Act.put, List.setIfInBounds_toArray, List.set_cons_zero, List.set_cons_succ]
      apply lex_callx
      · rfl
      · intro W'
        go_simp
        exact ⟨rfl, rfl⟩
      · intro W' hR hΦ
        refine (HE.out W' hR).mono ?_
        rintro e w' ⟨rfl, rfl⟩
        exact ⟨rfl, Ext.refl _⟩
      simp only [Act.put, List.setIfInBounds_toArray, List.set_cons_zero, List.set_cons_succ]
      repeat
        first
          | (apply lex_ex Ext.refl
             · rfl
             · intro W' hR hΦ
               have y0 := hR.cell c0
               have y1 := hR.cell c1
               have y2 := hR.cell c2
               have y3 := hR.cell c3
               have y4 := hR.cell c4
               have y5 := hR.cell c5
               go_simp
               first | done | with_reducible rfl)
          | (apply lex_skip
             · rfl)
        simp only [Act.put, List.setIfInBounds_toArray, List.set_cons_zero, List.set_cons_succ]
      refine lex_nil ?_
      intro W5 hR5 hΦ
      clear hΦ
      go_wp2_with fail
      go_ret
      exact ⟨by rw [Hag.out]; simp [hq], x2.trans hR5⟩
    · apply wp_region_lex (R := Ext) (by kernel_rfl) (by kernel_rfl) Ext.refl (fun _ _ _ => Ext.trans) (Ext.drew _)
      repeat
        first
          | (apply lex_ex Ext.refl
             · rfl
             · intro W' hR hΦ
               have y0 := hR.cell c0
               have y1 := hR.cell c1
               have y2 := hR.cell c2
               have y3 := hR.cell c3
               have y4 := hR.cell c4
               have y5 := hR.cell c5
               go_simp
               first | done | with_reducible rfl)
          | (apply lex_skip
             · rfl)
        simp only [Act.put, List.setIfInBounds_toArray, List.set_cons_zero, List.set_cons_succ]
      apply lex_callx
      · rfl
      · intro W'
        go_simp
        exact ⟨rfl, rfl⟩
      · intro W' hR hΦ
        refine (HE.out W' hR).mono ?_
        rintro e w' ⟨rfl, rfl⟩
        exact ⟨rfl, Ext.refl _⟩
      simp only [Act.put, List.setIfInBounds_toArray, List.set_cons_zero, List.set_cons_succ]
      repeat
        first
          | (apply lex_ex Ext.refl
             · rfl
             · intro W' hR hΦ
               have y0 := hR.cell c0
               have y1 := hR.cell c1
               have y2 := hR.cell c2
               have y3 := hR.cell c3
               have y4 := hR.cell c4
               have y5 := hR.cell c5
               go_simp
               first | done | with_reducible rfl)
          | (apply lex_skip
             · rfl)
        simp only [Act.put, List.setIfInBounds_toArray, List.set_cons_zero, List.set_cons_succ]
      refine lex_nil ?_
      intro W5 hR5 hΦ
      clear hΦ
      go_wp2_with fail
      go_ret
      exact ⟨by rw [Hag.out]; simp [hq], x2.trans hR5⟩
  · subst hc
    have hq : ((k : Int) != (k : Int)) = false := by simp
    have hE : Calls Try.prog 48 #[.slice A k c, .slice A' k c', .func (.func 39) #[] #[]] w2 fun e w' => e = .returned (.bool (ps.take k == ps'.take k)) ∧ w' = w2 := equalfunc_any w2 A k c _ A' k c' _ ((hp.ext x2).take (by omega)) ((hp'.ext x2).take (by omega))
    have hE2 := fun W (hR : Ext w2 W) => equalfunc_any W A k c _ A' k c' _ (((hp.ext x2).ext hR).take (k := k) (by omega)) (((hp'.ext x2).ext hR).take (k := k) (by omega))
    have hag : agreeT (ps, (k : Int), g) (ps', (k : Int), g') = ((ps.take k == ps'.take k) && ((k : Int) != (k : Int) || g == g')) := by
      have e1 : (min (k : Int) (k : Int)).toNat = k := by omega
      have m1 : mayT (ps, (k : Int), g) = true := by have := Hn.out; unfold mayT; simp; omega
      have m2 : mayT (ps', (k : Int), g') = true := by have := Hn'.out; unfold mayT; simp; omega
      unfold agreeT
      rw [m1, m2]
      simp only [e1, Bool.true_and]
    have Hag := Lib.hid hag
    have hmc : k ≤ c := by omega
    have hmc' : k ≤ c' := by omega
    clear hE hag
    go_wp2_with fail
    generalize hb : (ps.take k == ps'.take k) = E at *
    have HE := Lib.hid hE2
    clear hE2
    cases E
    · apply wp_region_lex (R := Ext) (by kernel_rfl) (by kernel_rfl) Ext.refl (fun _ _ _ => Ext.trans) (Ext.drew _)
      repeat
        first
          | (apply lex_ex Ext.refl
             · rfl
             · intro W' hR hΦ
               have y0 := hR.cell c0
               have y1 := hR.cell c1
               have y2 := hR.cell c2
               have y3 := hR.cell c3
               have y4 := hR.cell c4
               have y5 := hR.cell c5
               go_simp
               first | done | with_reducible rfl)
          | (apply lex_skip
             · rfl)
        simp only [Act.put, List.setIfInBounds_toArray, List.set_cons_zero, List.set_cons_succ]
      apply lex_callx
      · rfl
      · intro W'
        go_simp
        exact ⟨rfl, rfl⟩
      · intro W' hR hΦ
        refine (HE.out W' hR).mono ?_
        rintro e w' ⟨rfl, rfl⟩
        exact ⟨rfl, Ext.refl _⟩
      simp only [Act.put, List.setIfInBounds_toArray, List.set_cons_zero, List.set_cons_succ]
      repeat
        first
          | (apply lex_ex Ext.refl
             · rfl
             · intro W' hR hΦ
               have y0 := hR.cell c0
               have y1 := hR.cell c1
               have y2 := hR.cell c2
               have y3 := hR.cell c3
               have y4 := hR.cell c4
               have y5 := hR.cell c5
               go_simp
               first | done | with_reducible rfl)
          | (apply lex_skip
             · rfl)
        simp only [Act.put, List.setIfInBounds_toArray, List.set_cons_zero, List.set_cons_succ]
      refine lex_nil ?_
      intro W5 hR5 hΦ
      clear hΦ
      go_wp2_with fail
      go_ret
      exact ⟨by rw [Hag.out]; simp, x2.trans hR5⟩
    · apply wp_region_lex (R := Ext) (by kernel_rfl) (by kernel_rfl) Ext.refl (fun _ _ _ => Ext.trans) (Ext.drew _)
      repeat
        first
          | (apply lex_ex Ext.refl
             · rfl
             · intro W' hR hΦ
               have y0 := hR.cell c0
               have y1 := hR.cell c1
               have y2 := hR.cell c2
               have y3 := hR.cell c3
               have y4 := hR.cell c4
               have y5 := hR.cell c5
               go_simp
               first | done | with_reducible rfl)
          | (apply lex_skip
             · rfl)
        simp only [Act.put, List.setIfInBounds_toArray, List.set_cons_zero, List.set_cons_succ]
      apply lex_callx
      · rfl
      · intro W'
        go_simp
        exact ⟨rfl, rfl⟩
      · intro W' hR hΦ
        refine (HE.out W' hR).mono ?_
        rintro e w' ⟨rfl, rfl⟩
        exact ⟨rfl, Ext.refl _⟩
      simp only [Act.put, List.setIfInBounds_toArray, List.set_cons_zero, List.set_cons_succ]
      repeat
        first
          | (apply lex_ex Ext.refl
             · rfl
             · intro W' hR hΦ
               have y0 := hR.cell c0
               have y1 := hR.cell c1
               have y2 := hR.cell c2
               have y3 := hR.cell c3
               have y4 := hR.cell c4
               have y5 := hR.cell c5
               go_simp
               first | done | with_reducible rfl)
          | (apply lex_skip
             · rfl)
        simp only [Act.put, List.setIfInBounds_toArray, List.set_cons_zero, List.set_cons_succ]
      apply lex_callx
      · rfl
      · intro W'
        go_simp
        exact ⟨rfl, rfl⟩
      · intro W' hR hΦ
        refine (bytes_eq W' B m d g B' m' d' g' ((hg.ext x2).ext hR) ((hg'.ext x2).ext hR)).mono ?_
        rintro e w' ⟨rfl, rfl⟩
        exact ⟨rfl, Ext.refl _⟩
      simp only [Act.put, List.setIfInBounds_toArray, List.set_cons_zero, List.set_cons_succ]
      repeat
        first
          | (apply lex_ex Ext.refl
             · rfl
             · intro W' hR hΦ
               have y0 := hR.cell c0
               have y1 := hR.cell c1
               have y2 := hR.cell c2
               have y3 := hR.cell c3
               have y4 := hR.cell c4
               have y5 := hR.cell c5
               go_simp
               first | done | with_reducible rfl)
          | (apply lex_skip
             · rfl)
        simp only [Act.put, List.setIfInBounds_toArray, List.set_cons_zero, List.set_cons_succ]
      refine lex_nil ?_
      intro W5 hR5 hΦ
      clear hΦ
      go_wp2_with fail
      go_ret
      exact ⟨by rw [Hag.out]; simp, x2.trans hR5⟩
  · have hq : ((k : Int) != (k' : Int)) = true := by rw [bne_iff_ne]; omega
    have hc1 : ¬ k < k' := by omega
    have hc2 : ¬ k = k' := by omega
    have hc3 : ¬ k' = k := by omega
    have hE : Calls Try.prog 48 #[.slice A k' c, .slice A' k' c', .func (.func 39) #[] #[]] w2 fun e w' => e = .returned (.bool (ps.take k' == ps'.take k')) ∧ w' = w2 := equalfunc_any w2 A k' c _ A' k' c' _ ((hp.ext x2).take (by omega)) ((hp'.ext x2).take (by omega))
    have hE2 := fun W (hR : Ext w2 W) => equalfunc_any W A k' c _ A' k' c' _ (((hp.ext x2).ext hR).take (k := k') (by omega)) (((hp'.ext x2).ext hR).take (k := k') (by omega))
    have hag : agreeT (ps, (k : Int), g) (ps', (k' : Int), g') = ((ps.take k' == ps'.take k') && ((k : Int) != (k' : Int) || g == g')) := by
      have e1 : (min (k : Int) (k' : Int)).toNat = k' := by omega
      have m1 : mayT (ps, (k : Int), g) = true := by have := Hn.out; unfold mayT; simp; omega
      have m2 : mayT (ps', (k' : Int), g') = true := by have := Hn'.out; unfold mayT; simp; omega
      unfold agreeT
      rw [m1, m2]
      simp only [e1, Bool.true_and]
    have Hag := Lib.hid hag
    have hmc : k' ≤ c := by omega
    have hmc' : k' ≤ c' := by omega
    clear hE hag
    go_wp2_with fail
    generalize hb : (ps.take k' == ps'.take k') = E at *
    have HE := Lib.hid hE2
    clear hE2
    cases E
    · apply wp_region_lex (R := Ext) (by kernel_rfl) (by kernel_rfl) Ext.refl (fun _ _ _ => Ext.trans) (Ext.drew _)
      repeat
        first
          | (apply lex_ex Ext.refl
             · rfl
             · intro W' hR hΦ
               have y0 := hR.cell c0
               have y1 := hR.cell c1
               have y2 := hR.cell c2
               have y3 := hR.cell c3
               have y4 := hR.cell c4
               have y5 := hR.cell c5
               go_simp
               first | done | with_reducible rfl)
          | (apply lex_skip
             · rfl)
        simp only [Act.put, List.setIfInBounds_toArray, List.set_cons_zero, List.set_cons_succ]
      apply lex_callx
      · rfl
      · intro W'
        go_simp
        exact ⟨rfl, rfl⟩
      · intro W' hR hΦ
        refine (HE.out W' hR).mono ?_
        rintro e w' ⟨rfl, rfl⟩
        exact ⟨rfl, Ext.refl _⟩
      simp only [Act.put, List.setIfInBounds_toArray, List.set_cons_zero, List.set_cons_succ]
      repeat
        first
          | (apply lex_ex Ext.refl
             · rfl
             · intro W' hR hΦ
               have y0 := hR.cell c0
               have y1 := hR.cell c1
               have y2 := hR.cell c2
               have y3 := hR.cell c3
               have y4 := hR.cell c4
               have y5 := hR.cell c5
               go_simp
               first | done | with_reducible rfl)
          | (apply lex_skip
             · rfl)
        simp only [Act.put, List.setIfInBounds_toArray, List.set_cons_zero, List.set_cons_succ]
      refine lex_nil ?_
      intro W5 hR5 hΦ
      clear hΦ
      go_wp2_with fail
      go_ret
      exact ⟨by rw [Hag.out]; simp [hq], x2.trans hR5⟩
    · apply wp_region_lex (R := Ext) (by kernel_rfl) (by kernel_rfl) Ext.refl (fun _ _ _ => Ext.trans) (Ext.drew _)
      repeat
        first
          | (apply lex_ex Ext.refl
             · rfl
             · intro W' hR hΦ
               have y0 := hR.cell c0
               have y1 := hR.cell c1
               have y2 := hR.cell c2
               have y3 := hR.cell c3
               have y4 := hR.cell c4
               have y5 := hR.cell c5
               go_simp
               first | done | with_reducible rfl)
          | (apply lex_skip
             · rfl)
        simp only [Act.put, List.setIfInBounds_toArray, List.set_cons_zero, List.set_cons_succ]
      apply lex_callx
      · rfl
      · intro W'
        go_simp
        exact ⟨rfl, rfl⟩
      · intro W' hR hΦ
        refine (HE.out W' hR).mono ?_
        rintro e w' ⟨rfl, rfl⟩
        exact ⟨rfl, Ext.refl _⟩
      simp only [Act.put, List.setIfInBounds_toArray, List.set_cons_zero, List.set_cons_succ]
      repeat
        first
          | (apply lex_ex Ext.refl
             · rfl
             · intro W' hR hΦ
               have y0 := hR.cell c0
               have y1 := hR.cell c1
               have y2 := hR.cell c2
               have y3 := hR.cell c3
               have y4 := hR.cell c4
               have y5 := hR.cell c5
               go_simp
               first | done | with_reducible rfl)
          | (apply lex_skip
             · rfl)
        simp only [Act.put, List.setIfInBounds_toArray, List.set_cons_zero, List.set_cons_succ]
      refine lex_nil ?_
      intro W5 hR5 hΦ
      clear hΦ
      go_wp2_with fail
      go_ret
      exact ⟨by rw [Hag.out]; simp [hq], x2.trans hR5⟩
end Go.Proofs.Ytihegdjdgklbgaa
