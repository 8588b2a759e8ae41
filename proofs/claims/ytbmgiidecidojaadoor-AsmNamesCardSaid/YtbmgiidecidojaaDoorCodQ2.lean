/- The walk of the reference's EqProg. -/
import Derived.Test.YtbmgiidecidojaaDoorCodQ
import Derived.Test.YtbmgiidecidojaaDoorBox
import Derived.Test.YtbmgiidecidojaaDoorRegS
namespace Go.Proofs.YtbmgiidecidojaaDoor
open Go.RowKit

def rqRel (l l' : List OpT) (w : World) (i : Value) (w' : World) : Prop := ∃ k : Nat, i = .int .i64 (k : Nat) ∧ k ≤ l.length ∧ (l = l' ↔ l.drop k = l'.drop k) ∧ Ext w w'

/-- A block that is an operation's. -/
def OpBlk (w : World) (g : Nat) : Prop := ∃ x a b c, FBox w g x a b c
/-- Which block the i-th operation of the region writes. -/
def qrow (i : Nat) (σ : Nat → Value) : Option Nat := if i = 12 then blkOf (σ 10) else if i = 13 then blkOf (σ 11) else none
def qRs (i : Nat) (σ : Nat → Value) (w w' : World) : Prop := w.grownBy w' (qrow i σ) ∧ ∀ g, OpBlk w g → OpBlk w' g
theorem qRs_refl (i : Nat) (σ : Nat → Value) (w : World) : qRs i σ w w := ⟨(Ext.refl w).grownBy _, fun _ h => h⟩
theorem qRs_ext {i : Nat} {σ : Nat → Value} {w w' : World} (e : Ext w w') : qRs i σ w w' := ⟨e.grownBy _, fun _ ⟨x, a, b, c, h⟩ => ⟨x, a, b, c, h.ext e⟩⟩
/-- The k-th slot holds a new operation's block. -/
def qNew (w0 : World) (k : Nat) (σ : Nat → Value) (w : World) : Prop := ∃ g, σ k = .pointer (some ⟨g, 0, none⟩) ∧ w0.heap.size ≤ g ∧ OpBlk w g
/-- .. and there stands this operation. -/
def qIs (w0 : World) (k : Nat) (x a b c : Int) (σ : Nat → Value) (w : World) : Prop := ∃ g, σ k = .pointer (some ⟨g, 0, none⟩) ∧ w0.heap.size ≤ g ∧ FBox w g x a b c
theorem qNew_keeps {w0 : World} {F1 F2 : Nat} {l : List Oper} (i : Nat) : Keeps qRs F1 F2 l i (qNew w0 i) :=
  ⟨fun j σ v w hj _ ⟨g, h, r⟩ => ⟨g, by rw [upd_ne (fun e => hj e.symm)]; exact h, r⟩, fun _ _ _ _ _ _ _ ⟨g, h, h1, h2⟩ hr => ⟨g, h, h1, hr.2 g h2⟩⟩
theorem qIs_keeps {w0 : World} {l : List Oper} {x a b c : Int} (i k : Nat) (hik : (i = 12 ∧ k = 10) ∨ (i = 13 ∧ k = 11)) (h1 : bef l 12 10 = true) (h2 : bef l 13 11 = true) : Keeps qRs 10 11 l i (qIs w0 k x a b c) := by
  refine ⟨fun j σ v w hj hb ⟨g, h, r⟩ => ⟨g, ?_, r⟩, fun j hj hb σ w w' hap ⟨g, h, h3, h4⟩ hr => ⟨g, h, h3, h4.grown hr.1 ?_⟩⟩
  · rw [upd_ne, h]
    rintro rfl
    rcases hik with ⟨rfl, rfl⟩ | ⟨rfl, rfl⟩
    · rw [h1] at hb; cases hb
    · rw [h2] at hb; cases hb
  · unfold qrow
    rcases hik with ⟨rfl, rfl⟩ | ⟨rfl, rfl⟩
    · rw [if_neg hj]
      split
      · rename_i e
        subst e
        have := hap (by decide) (.inr (.inl h1)) (.inr (.inr ⟨h2, by decide⟩))
        rw [h] at this
        exact fun e => this (by rw [e]; rfl)
      · simp
    · split
      · rename_i e
        subst e
        have := hap (by decide) (.inr (.inr ⟨h1, by decide⟩)) (.inr (.inl h2))
        rw [h] at this
        exact fun e => this (by rw [e]; rfl)
      · simp
/-- An operation laid into its block. -/
def put4 (w : World) (g : Nat) (x a b c : Int) : World := (((w.setCell ⟨g, 0, none⟩ (.int .i64 x)).setCell ⟨g, 1, none⟩ (.int .i64 a)).setCell ⟨g, 2, none⟩ (.int .i64 b)).setCell ⟨g, 3, none⟩ (.int .i64 c)
theorem FBox.put4 {w : World} {g : Nat} {x a b c : Int} (h : FBox w g x a b c) (x' a' b' c' : Int) : FBox (put4 w g x' a' b' c') g x' a' b' c' := by
  obtain ⟨⟨t0, t1, t2, t3⟩, f0, f1, f2, f3⟩ := h
  unfold Proofs.YtbmgiidecidojaaDoor.put4
  refine ⟨⟨?_, ?_, ?_, ?_⟩, ?_, ?_, ?_, ?_⟩ <;> go_simp
theorem put4_grown (w : World) (g : Nat) (x a b c : Int) : w.grownBy (put4 w g x a b c) (some g) :=
  grown_trans (grown_trans (grown_trans (grownSet w _ rfl _) (grownSet _ _ rfl _)) (grownSet _ _ rfl _)) (grownSet _ _ rfl _)

set_option maxRecDepth 100000 in
set_option maxHeartbeats 4000000 in
theorem req_is (w : World) (t : List UInt8) (A : Option Addr) (n c : Nat) (l : List OpT) (t' : List UInt8) (A' : Option Addr) (n' c' : Nat) (l' : List OpT) (hl : Ro w A n c l) (hl' : Ro w A' n' c' l') {r : Bool} (hr : eqP t t' l l' = r) :
    Calls Tryd.prog 13 #[pAgg t A n c, pAgg t' A' n' c'] w fun e w' => e = .returned (.bool r) ∧ Ext w w' := by
  subst hr
  unfold pAgg eqP
  have hn := hl.len
  have hn' := hl'.len
  have hmx := hl.max
  have hmx' := hl'.max
  unfold maxLen at hmx hmx'
  subst hn hn'
  by_cases ht : t = t'
  · subst ht
    by_cases hne : l.length = l'.length
    · have Hne := Lib.hid hne
      have hb : ((l.length : Int) != (l'.length : Int)) = false := by simp [hne]
      clear hne
      go_enter Tryd.func13, Tryd.ntmps13
      go_wp2_with fail
      generalize hW0 : World.alloc (World.alloc w _) _ = W0
      have x0 : Ext w W0 := by subst hW0; exact (Ext.alloc _ _).trans (Ext.alloc _ _)
      have c0 : W0.cell? ⟨w.heap.size, 1, none⟩ = some (.slice A l.length c) := by subst hW0; go_simp
      have c1 : W0.cell? ⟨w.heap.size + 1, 1, none⟩ = some (.slice A' l'.length c') := by subst hW0; go_simp
      clear hW0
      go_loopw [5] (fun i w' => rqRel l l' W0 i w') (fun i _ => l.length - (intOf i).toNat)
      case atStart => exact ⟨0, rfl, Nat.zero_le _, Iff.rfl, Ext.refl _⟩
      case round =>
        obtain ⟨k, rfl, hk, he, hx⟩ := hrel
        have He := Lib.hid he
        have d0 := hx.cell c0
        have d1 := hx.cell c1
        clear he
        by_cases hlt : k < l.length
        · have hlt' : k < l'.length := by have := Hne.out; omega
          obtain ⟨b, o, rfl, g0, g1, g2, g3⟩ := (hl.ext (x0.trans hx)).at_ hlt
          obtain ⟨b', o', rfl, q0, q1, q2, q3⟩ := (hl'.ext (x0.trans hx)).at_ hlt'
          have Hd := Lib.hid (drop_eq hlt hlt')
          generalize l[k] = op at *
          generalize l'[k] = op' at *
          obtain ⟨x, a, y, z⟩ := op
          obtain ⟨x', a', y', z'⟩ := op'
          dsimp only at g0 g1 g2 g3 q0 q1 q2 q3
          have hx0 := x0.trans hx
          go_wp2_with fail
          have hB0 : ∀ W, Below wr.heap.size wr W → Ext wr W := fun _ h => h
          apply wp_region_lexS (F1 := 10) (F2 := 11) (R := Below wr.heap.size) (Rs := qRs) (J := fun _ _ => True) (by kernel_rfl) (by kernel_rfl) (Below.refl _) qRs_refl (fun _ _ => Below.size) (fun _ _ _ _ _ _ _ _ _ => trivial) (fun _ _ _ => Below.trans) (Ext.drew _) (fun _ => trivial)
          intro σ
          iterate 10
            apply lexS_ex (by decide) (by decide) (Below.refl _) qRs_refl
            · rfl
            · intro W hR0 _ hΦ
              have hR := hB0 W hR0
              have e0 := hR.cell d0
              have e1 := hR.cell d1
              have h0 := hR.cell g0
              have h1 := hR.cell g1
              have h2 := hR.cell g2
              have h3 := hR.cell g3
              have r0 := hR.cell q0
              have r1 := hR.cell q1
              have r2 := hR.cell q2
              have r3 := hR.cell q3
              go_simp
              first | done | with_reducible rfl
            simp only [Act.put, List.setIfInBounds_toArray, List.set_cons_zero, List.set_cons_succ]
          apply lexS_fresh (qNew_keeps (w0 := wr) 10)
          · rfl
          · intro W hR _ hΦ
            refine ⟨.pointer (some ⟨W.heap.size, 0, none⟩), W.alloc (.cells #[.int .i64 0, .int .i64 0, .int .i64 0, .int .i64 0] 39), ?_, ⟨W.heap.size, rfl, Nat.le_refl _, by simp⟩, Below.mono (Ext.alloc _ _) hR.size, qRs_ext (Ext.alloc _ _), W.heap.size, upd_eq, hR.size, 0, 0, 0, 0, FBox.new _ _ _ _ _ _ rfl⟩
            go_simp
            first | done | rfl
          simp only [Act.put, List.setIfInBounds_toArray, List.set_cons_zero, List.set_cons_succ]
          apply lexS_fresh (qNew_keeps (w0 := wr) 11)
          · rfl
          · intro W hR _ hΦ
            refine ⟨.pointer (some ⟨W.heap.size, 0, none⟩), W.alloc (.cells #[.int .i64 0, .int .i64 0, .int .i64 0, .int .i64 0] 39), ?_, ⟨W.heap.size, rfl, Nat.le_refl _, by simp⟩, Below.mono (Ext.alloc _ _) hR.size, qRs_ext (Ext.alloc _ _), W.heap.size, upd_eq, hR.size, 0, 0, 0, 0, FBox.new _ _ _ _ _ _ rfl⟩
            go_simp
            first | done | rfl
          simp only [Act.put, List.setIfInBounds_toArray, List.set_cons_zero, List.set_cons_succ]
          apply lexS_store (by decide) (by decide) (qIs_keeps (w0 := wr) (x := x) (a := a) (b := y) (c := z) 12 10 (.inl ⟨rfl, rfl⟩) (by kernel_rfl) (by kernel_rfl))
          · rfl
          · intro W hR _ hΦ
            obtain ⟨g, hg, hlo, x0, a0, y0, z0, hF⟩ := hΦ.2.1 rfl
            have hF' := hF.put4 x a y z
            have hgr := put4_grown W g x a y z
            refine ⟨put4 W g x a y z, ?_, below_of_grown hgr hR.size (fun k e => by cases e; exact hlo), ⟨by unfold qrow; rw [if_pos rfl, hg]; exact hgr, fun g' ⟨x1, a1, y1, z1, h⟩ => ?_⟩, g, by rw [upd_ne (by decide)]; exact hg, hlo, hF'⟩
            · obtain ⟨⟨t0, t1, t2, t3⟩, f0, f1, f2, f3⟩ := hF
              unfold put4
              rw [hg]
              go_simp
              first | done | rfl
            · by_cases e : g' = g
              · subst e; exact ⟨_, _, _, _, hF'⟩
              · exact ⟨_, _, _, _, h.grown hgr (fun e' => e (Option.some.inj e').symm)⟩
          simp only [Act.put]
          apply lexS_store (by decide) (by decide) (qIs_keeps (w0 := wr) (x := x') (a := a') (b := y') (c := z') 13 11 (.inr ⟨rfl, rfl⟩) (by kernel_rfl) (by kernel_rfl))
          · rfl
          · intro W hR _ hΦ
            obtain ⟨g, hg, hlo, x0, a0, y0, z0, hF⟩ := hΦ.2.1 rfl
            have hF' := hF.put4 x' a' y' z'
            have hgr := put4_grown W g x' a' y' z'
            refine ⟨put4 W g x' a' y' z', ?_, below_of_grown hgr hR.size (fun k e => by cases e; exact hlo), ⟨by unfold qrow; rw [if_neg (by decide), if_pos rfl, hg]; exact hgr, fun g' ⟨x1, a1, y1, z1, h⟩ => ?_⟩, g, by rw [upd_ne (by decide)]; exact hg, hlo, hF'⟩
            · obtain ⟨⟨t0, t1, t2, t3⟩, f0, f1, f2, f3⟩ := hF
              unfold put4
              rw [hg]
              go_simp
              first | done | rfl
            · by_cases e : g' = g
              · subst e; exact ⟨_, _, _, _, hF'⟩
              · exact ⟨_, _, _, _, h.grown hgr (fun e' => e (Option.some.inj e').symm)⟩
          simp only [Act.put]
          refine lexS_nil ?_
          intro W hR0 hap hΦ
          have hR := hB0 W hR0
          obtain ⟨k2, hg2, hk2, ⟨m10, m11, m12, m13⟩, f10, f11, f12, f13⟩ := hΦ.1 rfl
          obtain ⟨k1, hg1, hk1, ⟨m00, m01, m02, m03⟩, f00, f01, f02, f03⟩ := hΦ.2.1 rfl
          rw [hg1, hg2]
          clear hap hΦ
          have Hx := Lib.hid (fun (hne : ¬ ((x, a, y, z) : OpT) = (x', a', y', z')) => show decide (l = l') = false from decide_eq_false fun h => hne (Hd.out.mp (He.out.mp h)).1)
          have HX1 := Lib.hid hR
          by_cases n0 : x = x'
          rotate_left
          · have b0 : (x != x') = true := by rw [bne_iff_ne]; exact n0
            have Hf := Lib.hid (Hx.out (fun h => n0 (by have h := congrArg (fun o : OpT => o.1) h; exact h)))
            clear n0
            go_wp2_with fail
            go_ret
            exact ⟨by rw [Hf.out]; simp, hx0.trans HX1.out⟩
          subst n0
          by_cases n1 : a = a'
          rotate_left
          · have b1 : (a != a') = true := by rw [bne_iff_ne]; exact n1
            have Hf := Lib.hid (Hx.out (fun h => n1 (by have h := congrArg (fun o : OpT => o.2.1) h; exact h)))
            clear n1
            go_wp2_with fail
            go_ret
            exact ⟨by rw [Hf.out]; simp, hx0.trans HX1.out⟩
          subst n1
          by_cases n2 : y = y'
          rotate_left
          · have b2 : (y != y') = true := by rw [bne_iff_ne]; exact n2
            have Hf := Lib.hid (Hx.out (fun h => n2 (by have h := congrArg (fun o : OpT => o.2.2.1) h; exact h)))
            clear n2
            go_wp2_with fail
            go_ret
            exact ⟨by rw [Hf.out]; simp, hx0.trans HX1.out⟩
          subst n2
          by_cases n3 : z = z'
          rotate_left
          · have b3 : (z != z') = true := by rw [bne_iff_ne]; exact n3
            have Hf := Lib.hid (Hx.out (fun h => n3 (by have h := congrArg (fun o : OpT => o.2.2.2) h; exact h)))
            clear n3
            go_wp2_with fail
            go_ret
            exact ⟨by rw [Hf.out]; simp, hx0.trans HX1.out⟩
          subst n3
          go_wp2_with fail
          go_roundw
          case rel => exact ⟨k + 1, by go_num, hlt, by rw [He.out, Hd.out]; exact ⟨fun h => h.2, fun h => ⟨rfl, h⟩⟩, hx.trans HX1.out⟩
          case measure => simp [intOf]; omega
        · obtain rfl : k = l.length := by omega
          go_wp2_with fail
          go_ret
          have he : l = l' := He.out.mpr (by rw [List.drop_length, Hne.out, List.drop_length])
          exact ⟨by rw [decide_eq_true he]; simp, x0.trans hx⟩
    · have hb : ((l.length : Int) != (l'.length : Int)) = true := by rw [bne_iff_ne]; omega
      have Hne : RowKit.Hid (decide (l = l') = false) := Lib.hid (decide_eq_false fun h => hne (by rw [h]))
      clear hne
      go_enter Tryd.func13, Tryd.ntmps13
      go_wp2_with fail
      go_ret
      exact ⟨by rw [Hne.out]; simp, (Ext.alloc w _).trans (Ext.alloc _ _)⟩
  · have hb : (t == t') = false := by rw [beq_eq_false_iff_ne]; exact ht
    have Ht := Lib.hid ht
    clear ht
    go_enter Tryd.func13, Tryd.ntmps13
    go_wp2_with fail
    go_ret
    exact ⟨by rw [decide_eq_false Ht.out]; rfl, (Ext.alloc w _).trans (Ext.alloc _ _)⟩
end Go.Proofs.YtbmgiidecidojaaDoor
