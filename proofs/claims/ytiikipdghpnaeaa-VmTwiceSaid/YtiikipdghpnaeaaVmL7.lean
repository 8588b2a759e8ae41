/- The walk of the law VmTwice. -/
import Derived.Test.YtiikipdghpnaeaaVmL6
import Derived.Test.YtiikipdghpnaeaaBox
import Derived.Test.YtiikipdghpnaeaaRegS
namespace Go.Proofs.Ytiikipdghpnaeaa
open Go.RowKit
set_option linter.unusedVariables false

/-- Two programs' boxes are written: which by which operation. -/
def eRow (g0 g1 i : Nat) : Option Nat := if i = 6 then some g0 else if i = 7 then some g1 else none
def eJ (g0 g1 : Nat) (t : List UInt8) (A : Option Addr) (n c : Nat) (t' : List UInt8) (A' : Option Addr) (n' c' : Nat) (i : Nat) (w : World) : Prop :=
  (i = 0 ∨ i = 6 → PBox w g0 t A n c) ∧ (i = 2 ∨ i = 7 → PBox w g1 t' A' n' c')
theorem eJ_stab {l : List Oper} {g0 g1 : Nat} {t : List UInt8} {A : Option Addr} {n c : Nat} {t' : List UInt8} {A' : Option Addr} {n' c' : Nat} (h1 : bef l 6 0 = true) (h2 : bef l 7 2 = true) (hne : g0 ≠ g1) (j i : Nat) (_σ : Nat → Value) (hij : i ≠ j) (hb : bef l i j = false) (w w' : World) (hJ : eJ g0 g1 t A n c t' A' n' c' j w) (hr : w.grownBy w' (eRow g0 g1 i)) :
    eJ g0 g1 t A n c t' A' n' c' j w' := by
  refine ⟨fun h => (hJ.1 h).grown hr ?_, fun h => (hJ.2 h).grown hr ?_⟩
  · unfold eRow
    split
    · rename_i e
      subst e
      rcases h with rfl | rfl
      · rw [h1] at hb; cases hb
      · exact absurd rfl hij
    · split
      · exact fun e => hne (Option.some.inj e).symm
      · simp
  · unfold eRow
    split
    · exact fun e => hne (Option.some.inj e)
    · split
      · rename_i e
        subst e
        rcases h with rfl | rfl
        · rw [h2] at hb; cases hb
        · exact absurd rfl hij
      · simp
theorem eKeeps {l : List Oper} {F1 F2 i g : Nat} {g0 g1 : Nat} {t : List UInt8} {A : Option Addr} {n c : Nat} (h : ∀ j, j ≠ i → eRow g0 g1 j ≠ some g) : Keeps (fun i _ w w' => w.grownBy w' (eRow g0 g1 i)) F1 F2 l i (fun _ w => PBox w g t A n c) :=
  ⟨fun _ _ _ _ _ _ h => h, fun j hj _ _ _ _ _ hp hr => hp.grown hr (h j hj)⟩
/-- A program laid into its box. -/
def put2 (w : World) (g : Nat) (t : List UInt8) (A : Option Addr) (n c : Nat) : World := (w.setCell ⟨g, 0, none⟩ (.string (bs t))).setCell ⟨g, 1, none⟩ (.slice A n c)
theorem put2_grown (w : World) (g : Nat) (t : List UInt8) (A : Option Addr) (n c : Nat) : w.grownBy (put2 w g t A n c) (some g) := grown_trans (grownSet w _ rfl _) (grownSet _ _ rfl _)


set_option maxRecDepth 100000 in
set_option maxHeartbeats 4000000 in
theorem twice_walk (w : World) (t : List UInt8) (A : Option Addr) (n c : Nat) (l : List OpT) (ht : t.length ≤ maxLen) (hl : Ro w A n c l) (_hok : ∀ o ∈ l, okO o)
    (t' : List UInt8) (A' : Option Addr) (n' c' : Nat) (l' : List OpT) (ht' : t'.length ≤ maxLen) (hl' : Ro w A' n' c' l') (_hok' : ∀ o ∈ l', okO o)
    (ZA : Option Addr) (zn zc : Nat) (zs : List Int) (hz : Ri w .i32 ZA zn zc zs) (frame : Int) (_hf0 : -9223372036854775808 ≤ frame) (_hf1 : frame ≤ 9223372036854775807)
    (PA : Option Addr) (pn pc : Nat) (pl : List UInt8) (hp : Rb w PA pn pc pl) :
    Calls Try.prog 4 #[pAgg t A n c, pAgg t' A' n' c', .slice ZA zn zc, .int .i64 frame, .slice PA pn pc] w (Yes w) := by
  have hcut := fun W => pcut_any W t A n c 64 ht hl.max
  have hcut' := fun W => pcut_any W t' A' n' c' 64 ht' hl'.max
  have hm := hl.min_ 64
  have hm' := hl'.min_ 64
  have htl : (t.take 40).length ≤ 1099511627776 := by rw [List.length_take]; omega
  have htl' : (t'.take 40).length ≤ 1099511627776 := by rw [List.length_take]; omega
  have hsh := fun W => short_any PA pn pc 10 W hp.max
  have hp' : Rb w PA (min pn 10) pc (pl.take 10) := by
    have h := hp.take (Nat.min_le_left pn 10)
    have e : pl.take (min pn 10) = pl.take 10 := by rw [hp.len, List.take_eq_take_iff]; omega
    rwa [e] at h
  have hzok : ∀ z ∈ zs, ok32 z := fun z h => bd_i32 (hz.2 z h)
  have hgok := ofL_ok hzok
  have hof := fun W h => of_any W ZA zn zc zs h
  have hzr := hz.1
  generalize hta : t.take 40 = ta at *
  generalize htb : t'.take 40 = tb at *
  generalize l.take 64 = la at *
  generalize l'.take 64 = lb at *
  generalize min n 64 = na at *
  generalize min n' 64 = nb at *
  generalize pl.take 10 = pl' at *
  generalize min pn 10 = pn' at *
  clear hta htb hl hl' ht ht' _hok _hok' hp hz hzok _hf0 _hf1
  generalize ofL zs = g at *
  have Hgl := Lib.hid hgok.1
  have hGok := stepN_ok ta pl' frame la hgok
  have hst := fun W h1 h2 => step_any W ta A na c la frame PA pn' pc pl' g htl h1 h2 hgok
  have hst2 := fun W h1 h2 => step_any W tb A' nb c' lb frame PA pn' pc pl' g htl' h1 h2 hgok
  have hst3 := fun W h1 h2 => step_any W tb A' nb c' lb frame PA pn' pc pl' (stepN ta pl' frame la g).1 htl' h1 h2 hGok
  have HG := Lib.hid hGok.1
  unfold pAgg at hcut hcut' hst hst2 hst3 ⊢
  have Hcut := Lib.hid hcut
  have Hcut' := Lib.hid hcut'
  have Hsh := Lib.hid hsh
  have Hof := Lib.hid hof
  have Hst := Lib.hid hst
  have Hst2 := Lib.hid hst2
  have Hst3 := Lib.hid hst3
  clear hcut hcut' hsh hof hst hst2 hst3 hGok hgok
  generalize (stepN ta pl' frame la g).1 = G at *
  go_enter Try.func4, Try.ntmps4
  go_wp2_with fail
  refine (begun9_any _).mono ?_
  rintro e w1 ⟨rfl, e1⟩
  have pb0 := ((PBox.new w 24 t A n c rfl).ext (Ext.alloc _ (.cells #[.string (bs t'), .slice A' n' c'] 24))).ext e1
  have pb1 := (PBox.new (w.alloc (.cells #[.string (bs t), .slice A n c] 24)) 24 t' A' n' c' (g := w.heap.size + 1) (by simp)).ext e1
  have x1 : Ext w w1 := ((Ext.alloc w _).trans (Ext.alloc _ _)).trans e1
  clear e1
  obtain ⟨g0, hg0⟩ : ∃ g, g = w.heap.size := ⟨_, rfl⟩
  obtain ⟨g1, hg1⟩ : ∃ g, g = w.heap.size + 1 := ⟨_, rfl⟩
  rw [← hg0] at pb0
  rw [← hg1] at pb1
  have hne : g0 ≠ g1 := by omega
  have hlo0 : w.heap.size ≤ g0 := by omega
  have hlo1 : w.heap.size ≤ g1 := by omega
  go_wp2_with fail
  rw [← hg1, ← hg0]
  apply wp_region_lexS (F1 := 99) (F2 := 99) (R := Below w.heap.size) (Rs := fun i _ w w' => w.grownBy w' (eRow g0 g1 i)) (J := eJ g0 g1 t A n c t' A' n' c') (by kernel_rfl) (by kernel_rfl) (Below.refl _) (fun _ _ W => (Ext.refl W).grownBy _) (fun _ _ => Below.size) (eJ_stab (by kernel_rfl) (by kernel_rfl) hne) (fun _ _ _ => Below.trans) (Below.mono (Ext.drew _) x1.size) (fun i => ⟨fun _ => pb0.ext (Ext.drew _), fun _ => pb1.ext (Ext.drew _)⟩)
  intro σ
  apply lexS_ex (by decide) (by decide) (Below.refl _) (fun _ _ W => (Ext.refl W).grownBy _)
  · rfl
  · intro W hR hJ hΦ
    have hp := hJ.1 (.inl rfl)
    rw [hg0] at hp
    obtain ⟨p0, p1, p2, p3⟩ := hp
    go_simp
    first | done | with_reducible rfl
  simp only [Act.put, List.setIfInBounds_toArray, List.set_cons_zero, List.set_cons_succ]
  apply lexS_callx (by decide) (by decide)
  · rfl
  · intro W
    go_simp
    exact ⟨rfl, rfl⟩
  · intro W hR hJ hΦ
    exact (Hcut.out W).mono fun _ _ h => ⟨h.1, Below.mono h.2 (Nat.le_trans x1.size hR.size), h.2.grownBy _⟩
  simp only [Act.put, List.setIfInBounds_toArray, List.set_cons_zero, List.set_cons_succ]
  apply lexS_ex (by decide) (by decide) (Below.refl _) (fun _ _ W => (Ext.refl W).grownBy _)
  · rfl
  · intro W hR hJ hΦ
    have hp := hJ.2 (.inl rfl)
    rw [hg1] at hp
    obtain ⟨p0, p1, p2, p3⟩ := hp
    go_simp
    first | done | with_reducible rfl
  simp only [Act.put, List.setIfInBounds_toArray, List.set_cons_zero, List.set_cons_succ]
  apply lexS_callx (by decide) (by decide)
  · rfl
  · intro W
    go_simp
    exact ⟨rfl, rfl⟩
  · intro W hR hJ hΦ
    exact (Hcut'.out W).mono fun _ _ h => ⟨h.1, Below.mono h.2 (Nat.le_trans x1.size hR.size), h.2.grownBy _⟩
  simp only [Act.put, List.setIfInBounds_toArray, List.set_cons_zero, List.set_cons_succ]
  apply lexS_ex (by decide) (by decide) (Below.refl _) (fun _ _ W => (Ext.refl W).grownBy _)
  · rfl
  · intro W hR hJ hΦ
    go_simp
    first | done | with_reducible rfl
  simp only [Act.put, List.setIfInBounds_toArray, List.set_cons_zero, List.set_cons_succ]
  apply lexS_callx (by decide) (by decide)
  · rfl
  · intro W
    go_simp
    exact ⟨rfl, rfl⟩
  · intro W hR hJ hΦ
    refine (Hsh.out W).mono ?_
    rintro e w' ⟨rfl, rfl⟩
    exact ⟨rfl, Below.refl _ _, (Ext.refl W).grownBy _⟩
  simp only [Act.put, List.setIfInBounds_toArray, List.set_cons_zero, List.set_cons_succ]
  apply lexS_store (by decide) (by decide) (eKeeps (g := g0) (t := ta) (A := A) (n := na) (c := c) (fun j hj => by unfold eRow; exact (by rw [if_neg hj]; split; exact fun e => hne (Option.some.inj e).symm; simp)))
  · rfl
  · intro W hR hJ hΦ
    have hp := hJ.1 (.inr rfl)
    have hgr := put2_grown W g0 ta A na c
    refine ⟨put2 W g0 ta A na c, ?_, below_of_grown hgr (Nat.le_trans x1.size hR.size) (fun k e => by cases e; exact hlo0), ?_, (hp.setT ta).set_ A na c⟩
    · rw [hg0] at hp
      obtain ⟨p0, p1, p2, p3⟩ := hp
      unfold put2
      rw [hg0]
      go_simp
      first | done | rfl
    · show W.grownBy _ (eRow g0 g1 6)
      unfold eRow
      rw [if_pos rfl]
      exact hgr
  simp only [Act.put]
  apply lexS_store (by decide) (by decide) (eKeeps (g := g1) (t := tb) (A := A') (n := nb) (c := c') (fun j hj => by unfold eRow; exact (by split; exact fun e => hne (Option.some.inj e); simp)))
  · rfl
  · intro W hR hJ hΦ
    have hp := hJ.2 (.inr rfl)
    have hgr := put2_grown W g1 tb A' nb c'
    refine ⟨put2 W g1 tb A' nb c', ?_, below_of_grown hgr (Nat.le_trans x1.size hR.size) (fun k e => by cases e; exact hlo1), ?_, (hp.setT tb).set_ A' nb c'⟩
    · rw [hg1] at hp
      obtain ⟨p0, p1, p2, p3⟩ := hp
      unfold put2
      rw [hg1]
      go_simp
      first | done | rfl
    · show W.grownBy _ (eRow g0 g1 7)
      unfold eRow
      rw [if_neg (by decide), if_pos rfl]
      exact hgr
  simp only [Act.put]
  apply lexS_ex (by decide) (by decide) (Below.refl _) (fun _ _ W => (Ext.refl W).grownBy _)
  · rfl
  · intro W hR hJ hΦ
    go_simp
    first | done | with_reducible rfl
  simp only [Act.put, List.setIfInBounds_toArray, List.set_cons_zero, List.set_cons_succ]
  refine lexS_nil ?_
  intro W hR _ hΦ
  have pa := hΦ.2.1 rfl
  have pb := hΦ.1 rfl
  have x2 : Ext w W := Below.trans x1 hR
  clear hΦ hR pb0 pb1 x1 Hcut Hcut' Hsh hg0 hg1 hlo0 hlo1 hne
  obtain ⟨p0, p1, p2, p3⟩ := id pa
  obtain ⟨q0, q1, q2, q3⟩ := id pb
  go_wp2_with fail
  refine (Hof.out _ (hzr.ext x2)).mono ?_
  rintro e w4 ⟨rfl, e4⟩
  have p0 := e4.cell p0
  have p1 := e4.cell p1
  have q0 := e4.cell q0
  have q1 := e4.cell q1
  have x4 := x2.trans e4
  have lt0 := World.block_lt_of_cell? w4 _ p0
  have lt1 := World.block_lt_of_cell? w4 _ q0
  clear e4 pa pb
  go_wp2_with (first
    | ((with_reducible refine wpList_put_new _ rfl 31 (.tmp 12) (.tmp 25) rfl rfl rfl Hgl.out size_state ?_); intro W5 b5 x5 s5; have p0 := x5.cell p0; have p1 := x5.cell p1; have q0 := x5.cell q0; have q1 := x5.cell q1; have xE := x4.trans x5; clear x5 s5)
    | (with_reducible refine wpList_load_gm rfl 31 (.tmp 12) rfl rfl Try.underlying31 size_state b5.gm ?_))
  refine (Hst.out _ (hm.ext xE) (hp'.ext xE)).mono ?_
  rintro e w6 ⟨rfl, e6⟩
  have p0 := e6.cell p0
  have p1 := e6.cell p1
  have q0 := e6.cell q0
  have q1 := e6.cell q1
  have b6 := b5.ext e6
  have xF := xE.trans e6
  have lt0 := World.block_lt_of_cell? w6 _ p0
  have lt1 := World.block_lt_of_cell? w6 _ q0
  clear e6
  go_wp2_with (first
    | ((with_reducible refine wpList_put_new _ rfl 31 (.tmp 13) (.tmp 30) rfl rfl rfl HG.out size_state ?_); intro W7 b7 x7 s7; have p0 := x7.cell p0; have p1 := x7.cell p1; have q0 := x7.cell q0; have q1 := x7.cell q1; have b8 := b6.ext x7; have xG := xF.trans x7; clear x7 s7)
    | (with_reducible refine wpList_load_gm rfl 31 (.tmp 12) rfl rfl Try.underlying31 size_state b8.gm ?_))
  refine (Hst2.out _ (hm'.ext xG) (hp'.ext xG)).mono ?_
  rintro e w8 ⟨rfl, e8⟩
  have p0 := e8.cell p0
  have p1 := e8.cell p1
  have q0 := e8.cell q0
  have q1 := e8.cell q1
  have b9 := b7.ext e8
  have b10 := b8.ext e8
  have xH := xG.trans e8
  clear e8
  go_wp2_with (with_reducible refine wpList_load_gm rfl 31 (.tmp 13) rfl rfl Try.underlying31 size_state b9.gm ?_)
  refine (Hst3.out _ (hm'.ext xH) (hp'.ext xH)).mono ?_
  rintro e w9 ⟨rfl, e9⟩
  have p0 := e9.cell p0
  have p1 := e9.cell p1
  have b11 := b9.ext e9
  have b12 := b10.ext e9
  have xI := xH.trans e9
  clear e9
  go_wp2_with (with_reducible refine wpList_load_gm rfl 31 (.tmp 12) rfl rfl Try.underlying31 size_state b12.gm ?_)
  refine (Hst.out _ (hm.ext xI) (hp'.ext xI)).mono ?_
  rintro e wA ⟨rfl, eA⟩
  have bA := b11.ext eA
  have bB := b12.ext eA
  have xJ := xI.trans eA
  clear eA
  go_wp2_with ((with_reducible refine wpList_put_new _ rfl 31 (.tmp 14) (.tmp 45) rfl rfl rfl HG.out size_state ?_); intro WB bC xB sB; have bD := bA.ext xB; have bE := bB.ext xB; have xK := xJ.trans xB; clear xB sB)
  have heq := fun W => eq_game W HG.out
  have heq2 := fun W => eq_game W Hgl.out
  have hgu := guard_game
  apply wp_region_lex (R := Ext) (by kernel_rfl) (by kernel_rfl) Ext.refl (fun _ _ _ => Ext.trans) (Ext.drew _)
  repeat
    apply lex_ex Ext.refl
    · rfl
    · intro W' hR hΦ
      first
        | exact exec_load_gm 31 _ rfl rfl Try.underlying31 size_state (bC.gm.ext hR)
        | exact exec_load_gm 31 _ rfl rfl Try.underlying31 size_state (bD.gm.ext hR)
        | exact exec_load_gm 31 _ rfl rfl Try.underlying31 size_state (bE.gm.ext hR)
        | (go_simp; first | done | with_reducible rfl)
    simp only [Act.put, List.setIfInBounds_toArray, List.set_cons_zero, List.set_cons_succ]
  apply lex_callx
  · rfl
  · intro W'
    go_simp
    exact ⟨rfl, rfl⟩
  · intro W' hR hΦ
    exact (Hof.out _ (hzr.ext (xK.trans hR))).mono fun _ _ h => h
  simp only [Act.put, List.setIfInBounds_toArray, List.set_cons_zero, List.set_cons_succ]
  repeat
    apply lex_ex Ext.refl
    · rfl
    · intro W' hR hΦ
      (go_simp; first | done | with_reducible rfl)
    simp only [Act.put, List.setIfInBounds_toArray, List.set_cons_zero, List.set_cons_succ]
  refine lex_nil ?_
  intro WZ hRZ hΦ
  clear hΦ
  go_wp2_with fail
  go_ret
  exact ⟨rfl, xK.trans hRZ⟩
end Go.Proofs.Ytiikipdghpnaeaa
