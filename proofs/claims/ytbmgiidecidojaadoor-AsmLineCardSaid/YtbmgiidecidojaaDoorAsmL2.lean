/- The walk of the law AsmTwins. -/
import Derived.Test.YtbmgiidecidojaaDoorAsmB
import Derived.Test.YtbmgiidecidojaaDoorAsmM
import Derived.Test.YtbmgiidecidojaaDoorCodQ2
namespace Go.Proofs.YtbmgiidecidojaaDoor
open Go.RowKit

/-- Two programs' boxes are written: which by which operation. -/
def eRow (g0 g1 i : Nat) : Option Nat := if i = 4 then some g0 else if i = 5 then some g1 else none
def eJ (g0 g1 : Nat) (t : List UInt8) (A : Option Addr) (n c : Nat) (t' : List UInt8) (A' : Option Addr) (n' c' : Nat) (i : Nat) (w : World) : Prop :=
  (i = 0 ∨ i = 4 → PBox w g0 t A n c) ∧ (i = 2 ∨ i = 5 → PBox w g1 t' A' n' c')
theorem eJ_stab {l : List Oper} {g0 g1 : Nat} {t : List UInt8} {A : Option Addr} {n c : Nat} {t' : List UInt8} {A' : Option Addr} {n' c' : Nat} (h1 : bef l 4 0 = true) (h2 : bef l 5 2 = true) (hne : g0 ≠ g1) (j i : Nat) (_σ : Nat → Value) (hij : i ≠ j) (hb : bef l i j = false) (w w' : World) (hJ : eJ g0 g1 t A n c t' A' n' c' j w) (hr : w.grownBy w' (eRow g0 g1 i)) :
    eJ g0 g1 t A n c t' A' n' c' j w' := by
  refine ⟨fun h => (hJ.1 h).grown hr ?_, fun h => (hJ.2 h).grown hr ?_⟩
  · unfold eRow
    split
    · rename_i e
      subst e
      rcases h with rfl | rfl
      · rw [h1] at hb; cases hb
      · exact absurd rfl hij
    · split
      · exact fun e => hne (Option.some.inj e).symm
      · simp
  · unfold eRow
    split
    · exact fun e => hne (Option.some.inj e)
    · split
      · rename_i e
        subst e
        rcases h with rfl | rfl
        · rw [h2] at hb; cases hb
        · exact absurd rfl hij
      · simp
theorem eKeeps {l : List Oper} {F1 F2 i g : Nat} {g0 g1 : Nat} {t : List UInt8} {A : Option Addr} {n c : Nat} (h : ∀ j, j ≠ i → eRow g0 g1 j ≠ some g) : Keeps (fun i _ w w' => w.grownBy w' (eRow g0 g1 i)) F1 F2 l i (fun _ w => PBox w g t A n c) :=
  ⟨fun _ _ _ _ _ _ h => h, fun j hj _ _ _ _ _ hp hr => hp.grown hr (h j hj)⟩
/-- A program laid into its box. -/
def put2 (w : World) (g : Nat) (t : List UInt8) (A : Option Addr) (n c : Nat) : World := (w.setCell ⟨g, 0, none⟩ (.string (bs t))).setCell ⟨g, 1, none⟩ (.slice A n c)
theorem put2_grown (w : World) (g : Nat) (t : List UInt8) (A : Option Addr) (n c : Nat) : w.grownBy (put2 w g t A n c) (some g) := grown_trans (grownSet w _ rfl _) (grownSet _ _ rfl _)

theorem twins_eq {t t' : List UInt8} {l l' : List OpT} (h : printL t l ≠ []) : (printL t l == printL t' l') = eqP t t' l l' := by
  unfold eqP
  by_cases e : printL t l = printL t' l'
  · obtain ⟨rfl, rfl⟩ := print_inj h e
    simp
  · rw [beq_eq_false_iff_ne.2 e]
    symm
    rw [Bool.and_eq_false_iff]
    by_cases e1 : t = t'
    · right
      rw [decide_eq_false_iff_not]
      rintro rfl
      exact e (by rw [e1])
    · left; exact decide_eq_false e1
set_option maxRecDepth 100000 in
set_option maxHeartbeats 4000000 in
theorem twins_walk (w : World) (ht0 : Pow w) (t : List UInt8) (A : Option Addr) (n c : Nat) (l : List OpT) (ht : t.length ≤ maxLen) (hl : Ro w A n c l) (_hok : ∀ o ∈ l, okO o)
    (t' : List UInt8) (A' : Option Addr) (n' c' : Nat) (l' : List OpT) (ht' : t'.length ≤ maxLen) (hl' : Ro w A' n' c' l') (_hok' : ∀ o ∈ l', okO o) :
    Calls Tryd.prog 7 #[pAgg t A n c, pAgg t' A' n' c'] w (Yes w) := by
  have hcut := fun W => pcut_any W t A n c 20 ht hl.max
  have hcut' := fun W => pcut_any W t' A' n' c' 20 ht' hl'.max
  have hm := hl.min_ 20
  have hm' := hl'.min_ 20
  have htl : (t.take 40).length ≤ 1099511627776 := by rw [List.length_take]; omega
  have htl' : (t'.take 40).length ≤ 1099511627776 := by rw [List.length_take]; omega
  generalize hta : t.take 40 = ta at *
  generalize htb : t'.take 40 = tb at *
  generalize l.take 20 = la at *
  generalize l'.take 20 = lb at *
  generalize min n 20 = na at *
  generalize min n' 20 = nb at *
  clear hta htb hl hl' ht ht' _hok _hok'
  obtain ⟨r, hr⟩ : ∃ r, eqP ta tb la lb = r := ⟨_, rfl⟩
  have hreq := fun W h h' => req_is W ta A na c la tb A' nb c' lb h h' hr
  have hpa := fun W h h' => aprint_any W h ta A na c la htl h'
  have hpb := fun W h h' => aprint_any W h tb A' nb c' lb htl' h'
  have htw := twins_eq (t := ta) (l := la) (t' := tb) (l' := lb)
  rw [hr] at htw
  have Htw := Lib.hid htw
  generalize printL ta la = sa at *
  generalize printL tb lb = sb at *
  unfold pAgg at hcut hcut' hreq hpa hpb ⊢
  have Hcut := Lib.hid hcut
  have Hcut' := Lib.hid hcut'
  have Hreq := Lib.hid hreq
  have Hpa := Lib.hid hpa
  have Hpb := Lib.hid hpb
  clear hcut hcut' hreq hpa hpb hr htw
  go_enter Tryd.func7, Tryd.ntmps7
  go_wp2_with fail
  refine (begun6_any _ (pow_ext ht0 ((Ext.alloc w _).trans (Ext.alloc _ _)))).mono ?_
  rintro e w1 ⟨rfl, e1⟩
  have pb0 := ((PBox.new w 26 t A n c rfl).ext (Ext.alloc _ (.cells #[.string (bs t'), .slice A' n' c'] 26))).ext e1
  have pb1 := (PBox.new (w.alloc (.cells #[.string (bs t), .slice A n c] 26)) 26 t' A' n' c' (g := w.heap.size + 1) (by simp)).ext e1
  have x1 : Ext w w1 := ((Ext.alloc w _).trans (Ext.alloc _ _)).trans e1
  clear e1
  obtain ⟨g0, hg0⟩ : ∃ g, g = w.heap.size := ⟨_, rfl⟩
  obtain ⟨g1, hg1⟩ : ∃ g, g = w.heap.size + 1 := ⟨_, rfl⟩
  rw [← hg0] at pb0
  rw [← hg1] at pb1
  have hne : g0 ≠ g1 := by omega
  have hlo0 : w.heap.size ≤ g0 := by omega
  have hlo1 : w.heap.size ≤ g1 := by omega
  go_wp2_with fail
  rw [← hg1, ← hg0]
  apply wp_region_lexS (F1 := 99) (F2 := 99) (R := Below w.heap.size) (Rs := fun i _ w w' => w.grownBy w' (eRow g0 g1 i)) (J := eJ g0 g1 t A n c t' A' n' c') (by kernel_rfl) (by kernel_rfl) (Below.refl _) (fun _ _ W => (Ext.refl W).grownBy _) (fun _ _ => Below.size) (eJ_stab (by kernel_rfl) (by kernel_rfl) hne) (fun _ _ _ => Below.trans) (Below.mono (Ext.drew _) x1.size) (fun i => ⟨fun _ => pb0.ext (Ext.drew _), fun _ => pb1.ext (Ext.drew _)⟩)
  intro σ
  apply lexS_ex (by decide) (by decide) (Below.refl _) (fun _ _ W => (Ext.refl W).grownBy _)
  · rfl
  · intro W hR hJ hΦ
    have hp := hJ.1 (.inl rfl)
    rw [hg0] at hp
    obtain ⟨p0, p1, p2, p3⟩ := hp
    go_simp
    first | done | with_reducible rfl
  simp only [Act.put, List.setIfInBounds_toArray, List.set_cons_zero, List.set_cons_succ]
  apply lexS_callx (by decide) (by decide)
  · rfl
  · intro W
    go_simp
    exact ⟨rfl, rfl⟩
  · intro W hR hJ hΦ
    exact (Hcut.out W).mono fun _ _ h => ⟨h.1, Below.mono h.2 (Nat.le_trans x1.size hR.size), h.2.grownBy _⟩
  simp only [Act.put, List.setIfInBounds_toArray, List.set_cons_zero, List.set_cons_succ]
  apply lexS_ex (by decide) (by decide) (Below.refl _) (fun _ _ W => (Ext.refl W).grownBy _)
  · rfl
  · intro W hR hJ hΦ
    have hp := hJ.2 (.inl rfl)
    rw [hg1] at hp
    obtain ⟨p0, p1, p2, p3⟩ := hp
    go_simp
    first | done | with_reducible rfl
  simp only [Act.put, List.setIfInBounds_toArray, List.set_cons_zero, List.set_cons_succ]
  apply lexS_callx (by decide) (by decide)
  · rfl
  · intro W
    go_simp
    exact ⟨rfl, rfl⟩
  · intro W hR hJ hΦ
    exact (Hcut'.out W).mono fun _ _ h => ⟨h.1, Below.mono h.2 (Nat.le_trans x1.size hR.size), h.2.grownBy _⟩
  simp only [Act.put, List.setIfInBounds_toArray, List.set_cons_zero, List.set_cons_succ]
  apply lexS_store (by decide) (by decide) (eKeeps (g := g0) (t := ta) (A := A) (n := na) (c := c) (fun j hj => by unfold eRow; exact (by rw [if_neg hj]; split; exact fun e => hne (Option.some.inj e).symm; simp)))
  · rfl
  · intro W hR hJ hΦ
    have hp := hJ.1 (.inr rfl)
    have hgr := put2_grown W g0 ta A na c
    refine ⟨put2 W g0 ta A na c, ?_, below_of_grown hgr (Nat.le_trans x1.size hR.size) (fun k e => by cases e; exact hlo0), ?_, (hp.setT ta).set_ A na c⟩
    · rw [hg0] at hp
      obtain ⟨p0, p1, p2, p3⟩ := hp
      unfold put2
      rw [hg0]
      go_simp
      first | done | rfl
    · show W.grownBy _ (eRow g0 g1 4)
      unfold eRow
      rw [if_pos rfl]
      exact hgr
  simp only [Act.put]
  apply lexS_store (by decide) (by decide) (eKeeps (g := g1) (t := tb) (A := A') (n := nb) (c := c') (fun j hj => by unfold eRow; exact (by split; exact fun e => hne (Option.some.inj e); simp)))
  · rfl
  · intro W hR hJ hΦ
    have hp := hJ.2 (.inr rfl)
    have hgr := put2_grown W g1 tb A' nb c'
    refine ⟨put2 W g1 tb A' nb c', ?_, below_of_grown hgr (Nat.le_trans x1.size hR.size) (fun k e => by cases e; exact hlo1), ?_, (hp.setT tb).set_ A' nb c'⟩
    · rw [hg1] at hp
      obtain ⟨p0, p1, p2, p3⟩ := hp
      unfold put2
      rw [hg1]
      go_simp
      first | done | rfl
    · show W.grownBy _ (eRow g0 g1 5)
      unfold eRow
      rw [if_neg (by decide), if_pos rfl]
      exact hgr
  simp only [Act.put]
  refine lexS_nil ?_
  intro W hR _ hΦ
  have pa := hΦ.2.1 rfl
  have pb := hΦ.1 rfl
  have x2 : Ext w W := Below.trans x1 hR
  clear hΦ hR pb0 pb1 x1 Hcut Hcut' hg0 hg1 hlo0 hlo1 hne
  go_wp2_with fail
  apply wp_region_lex (R := Ext) (by kernel_rfl) (by kernel_rfl) Ext.refl (fun _ _ _ => Ext.trans) (Ext.drew _)
  apply lex_ex Ext.refl
  · rfl
  · intro V hR hΦ
    obtain ⟨p0, p1, p2, p3⟩ := pa.ext hR
    obtain ⟨q0, q1, q2, q3⟩ := pb.ext hR
    go_simp
    first | done | with_reducible rfl
  simp only [Act.put, List.setIfInBounds_toArray, List.set_cons_zero, List.set_cons_succ]
  apply lex_callx (u := .string (bs sa))
  · rfl
  · intro V
    go_simp
    exact ⟨rfl, rfl⟩
  · intro V hR hΦ
    exact Hpa.out V (pow_ext ht0 (x2.trans hR)) (hm.ext (x2.trans hR))
  simp only [Act.put, List.setIfInBounds_toArray, List.set_cons_zero, List.set_cons_succ]
  apply lex_ex Ext.refl
  · rfl
  · intro V hR hΦ
    obtain ⟨p0, p1, p2, p3⟩ := pa.ext hR
    obtain ⟨q0, q1, q2, q3⟩ := pb.ext hR
    go_simp
    first | done | with_reducible rfl
  simp only [Act.put, List.setIfInBounds_toArray, List.set_cons_zero, List.set_cons_succ]
  apply lex_callx (u := .string (bs sb))
  · rfl
  · intro V
    go_simp
    exact ⟨rfl, rfl⟩
  · intro V hR hΦ
    exact Hpb.out V (pow_ext ht0 (x2.trans hR)) (hm'.ext (x2.trans hR))
  simp only [Act.put, List.setIfInBounds_toArray, List.set_cons_zero, List.set_cons_succ]
  apply lex_ex Ext.refl
  · rfl
  · intro V hR hΦ
    obtain ⟨p0, p1, p2, p3⟩ := pa.ext hR
    obtain ⟨q0, q1, q2, q3⟩ := pb.ext hR
    go_simp
    first | done | with_reducible rfl
  simp only [Act.put, List.setIfInBounds_toArray, List.set_cons_zero, List.set_cons_succ]
  apply lex_ex Ext.refl
  · rfl
  · intro V hR hΦ
    obtain ⟨p0, p1, p2, p3⟩ := pa.ext hR
    obtain ⟨q0, q1, q2, q3⟩ := pb.ext hR
    go_simp
    first | done | with_reducible rfl
  simp only [Act.put, List.setIfInBounds_toArray, List.set_cons_zero, List.set_cons_succ]
  refine lex_nil ?_
  intro V hR _
  have pa := pa.ext hR
  have pb := pb.ext hR
  have x2 := x2.trans hR
  clear hR
  obtain ⟨p0, p1, p2, p3⟩ := id pa
  obtain ⟨q0, q1, q2, q3⟩ := id pb
  by_cases ha : sa = []
  · subst ha
    go_wp2_with fail
    go_ret
    exact ⟨rfl, x2⟩
  · have hae : sa.isEmpty = false := by cases sa <;> simp at ha ⊢
    by_cases hb : sb = []
    · subst hb
      go_wp2_with fail
      go_ret
      exact ⟨rfl, x2⟩
    · have hbe : sb.isEmpty = false := by cases sb <;> simp at hb ⊢
      have hab := Htw.out ha
      go_wp2_with fail
      refine (Hreq.out V (hm.ext x2) (hm'.ext x2)).mono ?_
      rintro e w5 ⟨rfl, e5⟩
      cases r
      · go_wp2_with fail
        go_ret
        exact ⟨rfl, x2.trans e5⟩
      · go_wp2_with fail
        go_ret
        exact ⟨rfl, x2.trans e5⟩
end Go.Proofs.YtbmgiidecidojaaDoor
