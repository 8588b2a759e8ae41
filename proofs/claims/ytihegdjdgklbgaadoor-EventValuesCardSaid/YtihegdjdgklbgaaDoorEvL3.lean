/- The walk of the law EventValues. -/
import Derived.Test.YtihegdjdgklbgaaDoorEvB
import Derived.Test.YtihegdjdgklbgaaDoorRowE
import Derived.Test.YtihegdjdgklbgaaDoorRegN
namespace Go.Proofs.YtihegdjdgklbgaaDoor
set_option maxRecDepth 100000
open Go.RowKit
set_option linter.unusedVariables false

theorem grown_setC (w : World) (b o : Nat) (u : Value) : w.grownBy (w.setCell ⟨b, o, none⟩ u) (some b) := ⟨rfl, rfl, rfl, by simp [World.setCell], fun k _ hk => Below.heap_setCell w _ u k (by rintro rfl; exact hk rfl)⟩
def OneAt (w : World) (g : Nat) : Prop := (∃ u, w.cell? ⟨g, 0, none⟩ = some u) ∧ w.frozen? ⟨g, 0, none⟩ = false
theorem OneAt.ext {w w' : World} {g : Nat} (h : OneAt w g) (e : Ext w w') : OneAt w' g := by
  obtain ⟨⟨u, h1⟩, h2⟩ := h
  have hl : g < w.heap.size := World.block_lt_of_cell? w _ h1
  exact ⟨⟨u, e.cell h1⟩, by rw [e.frozen hl]; exact h2⟩
theorem OneAt.set {w : World} {g : Nat} (h : OneAt w g) (g' : Nat) (v : Value) : OneAt (w.setCell ⟨g', 0, none⟩ v) g := by
  obtain ⟨⟨u, h1⟩, h2⟩ := h
  refine ⟨?_, by rw [World.frozen?_setCell]; exact h2⟩
  by_cases e : g' = g
  · subst e
    exact ⟨v, by go_simp⟩
  · exact ⟨u, by go_simp⟩
def vnRow (σ : Nat → Value) (i : Nat) : Option Nat := if i = 9 then blkOf (σ 6) else if i = 10 then blkOf (σ 7) else if i = 11 then blkOf (σ 8) else none
def vnRs (i : Nat) (σ : Nat → Value) (w w' : World) : Prop := w.grownBy w' (vnRow σ i) ∧ ∀ g, OneAt w g → OneAt w' g
theorem vnRs.ext {i : Nat} {σ : Nat → Value} {w w' : World} (e : Ext w w') : vnRs i σ w w' := ⟨e.grownBy _, fun g h => h.ext e⟩
theorem vnRs.store {i : Nat} {σ : Nat → Value} {w : World} {g : Nat} (v : Value) (h : vnRow σ i = some g) : vnRs i σ w (w.setCell ⟨g, 0, none⟩ v) := ⟨by rw [h]; exact grown_setC w g 0 v, fun g' h' => h'.set g v⟩
def vnA (a m : Nat) (σ : Nat → Value) (w : World) : Prop := ∃ g, σ a = .pointer (some ⟨g, 0, none⟩) ∧ m ≤ g ∧ OneAt w g
def vnS (a m : Nat) (v : Value) (σ : Nat → Value) (w : World) : Prop := ∃ g, σ a = .pointer (some ⟨g, 0, none⟩) ∧ m ≤ g ∧ w.cell? ⟨g, 0, none⟩ = some v
theorem vnKeepsA {a m : Nat} {l : List Oper} : KeepsN vnRs [6, 7, 8] l a (vnA a m) := by
  refine ⟨fun j σ v w hj _ h => ?_, fun j hj _ σ w w' _ h hr => ?_⟩
  · unfold vnA; rw [upd_ne (fun e => hj e.symm)]; exact h
  · obtain ⟨g, h1, h2, h3⟩ := h
    exact ⟨g, h1, h2, hr.2 g h3⟩
theorem vnKeepsS {k a m : Nat} {v : Value} {l : List Oper} (hka : (k = 9 ∧ a = 6) ∨ (k = 10 ∧ a = 7) ∨ (k = 11 ∧ a = 8)) (h9 : bef l 9 6 = true) (h10 : bef l 10 7 = true) (h11 : bef l 11 8 = true) : KeepsN vnRs [6, 7, 8] l k (vnS a m v) := by
  have hba : bef l k a = true := by rcases hka with ⟨rfl, rfl⟩ | ⟨rfl, rfl⟩ | ⟨rfl, rfl⟩ <;> assumption
  have haF : a ∈ [6, 7, 8] := by rcases hka with ⟨rfl, rfl⟩ | ⟨rfl, rfl⟩ | ⟨rfl, rfl⟩ <;> decide
  refine ⟨fun j σ v w hj hj2 h => ?_, fun j hj hj2 σ w w' hap h hr => ?_⟩
  · unfold vnS
    rw [upd_ne (fun e => by subst e; rw [hba] at hj2; cases hj2)]; exact h
  · obtain ⟨g, h1, h2, h3⟩ := h
    refine ⟨g, h1, h2, hr.1.cell h3 ?_⟩
    have hb : blkOf (σ a) = some g := by rw [h1]; rfl
    show some g ≠ vnRow σ j
    rw [← hb]
    unfold vnRow
    by_cases e9 : j = 9
    · subst e9
      rw [if_pos rfl]
      exact hap a haF 6 (by decide) (by rcases hka with ⟨rfl, rfl⟩ | ⟨rfl, rfl⟩ | ⟨rfl, rfl⟩ <;> first | exact absurd rfl hj | decide) (.inr (.inl hba)) (.inr (.inr ⟨h9, by decide⟩))
    rw [if_neg e9]
    by_cases e10 : j = 10
    · subst e10
      rw [if_pos rfl]
      exact hap a haF 7 (by decide) (by rcases hka with ⟨rfl, rfl⟩ | ⟨rfl, rfl⟩ | ⟨rfl, rfl⟩ <;> first | exact absurd rfl hj | decide) (.inr (.inl hba)) (.inr (.inr ⟨h10, by decide⟩))
    rw [if_neg e10]
    by_cases e11 : j = 11
    · subst e11
      rw [if_pos rfl]
      exact hap a haF 8 (by decide) (by rcases hka with ⟨rfl, rfl⟩ | ⟨rfl, rfl⟩ | ⟨rfl, rfl⟩ <;> first | exact absurd rfl hj | decide) (.inr (.inl hba)) (.inr (.inr ⟨h11, by decide⟩))
    rw [if_neg e11, hb]; simp
def evV (p f : Int) (j : Nat) : Value := if j = 0 then .iface 44 (.agg #[.int .i64 p]) else if j = 1 then .iface 45 (.agg #[.int .i64 p]) else .iface 47 (.agg #[.int .i64 p, .int .i64 f])
/-- The array, and how far it is filled. -/
structure Arr3 (w wr : World) (ab : Nat) (x y z : Value) : Prop where
  c0 : wr.cell? ⟨ab, 0, none⟩ = some x
  c1 : wr.cell? ⟨ab, 1, none⟩ = some y
  c2 : wr.cell? ⟨ab, 2, none⟩ = some z
  f0 : wr.frozen? ⟨ab, 0, none⟩ = false
  f1 : wr.frozen? ⟨ab, 1, none⟩ = false
  f2 : wr.frozen? ⟨ab, 2, none⟩ = false
  e : Ext w wr
theorem Arr3.ext {w wr w' : World} {ab : Nat} {x y z : Value} (h : Arr3 w wr ab x y z) (e : Ext wr w') : Arr3 w w' ab x y z := by
  have hl : ab < wr.heap.size := World.block_lt_of_cell? wr _ h.c0
  exact ⟨e.cell h.c0, e.cell h.c1, e.cell h.c2, by rw [e.frozen hl]; exact h.f0, by rw [e.frozen hl]; exact h.f1, by rw [e.frozen hl]; exact h.f2, h.e.trans e⟩
def vaRel (w : World) (p f : Int) (ab : Nat) (iv : Value) (wr : World) : Prop :=
  ∃ k : Nat, iv = .int .i64 (k : Nat) ∧ k ≤ 3 ∧ Arr3 w wr ab (if 0 < k then evV p f 0 else .nilIface) (if 1 < k then evV p f 1 else .nilIface) (if 2 < k then evV p f 2 else .nilIface)
set_option maxRecDepth 100000 in
set_option maxHeartbeats 4000000 in
theorem values_walk (w : World) (ht : Pow w) (p : Int) (_p0 : -9223372036854775808 ≤ p) (_p1 : p ≤ 9223372036854775807) (f : Int) (_f0 : -9223372036854775808 ≤ f) (_f1 : f ≤ 9223372036854775807) :
    Calls Tryd.prog 6 #[.int .i64 p, .int .i64 f] w (Yes w) := by
  have hbe := fun W h => begun12_any W h
  have Hbe := Lib.hid hbe
  clear hbe
  by_cases h1 : p < 0
  · have d1 : decide (p < 0) = true := decide_eq_true h1
    go_enter Tryd.func6, Tryd.ntmps6
    go_wp2_with fail
    refine (Hbe.out _ ht).mono ?_
    rintro e w1 ⟨rfl, e1⟩
    go_wp2_with fail
    go_ret
    exact ⟨rfl, e1⟩
  have d1 : decide (p < 0) = false := decide_eq_false h1
  by_cases h2 : 7 < p
  · have d2 : decide (7 < p) = true := decide_eq_true h2
    go_enter Tryd.func6, Tryd.ntmps6
    go_wp2_with fail
    refine (Hbe.out _ ht).mono ?_
    rintro e w1 ⟨rfl, e1⟩
    go_wp2_with fail
    go_ret
    exact ⟨rfl, e1⟩
  have d2 : decide (7 < p) = false := decide_eq_false h2
  by_cases h3 : f < 0
  · have d3 : decide (f < 0) = true := decide_eq_true h3
    go_enter Tryd.func6, Tryd.ntmps6
    go_wp2_with fail
    refine (Hbe.out _ ht).mono ?_
    rintro e w1 ⟨rfl, e1⟩
    go_wp2_with fail
    go_ret
    exact ⟨rfl, e1⟩
  have d3 : decide (f < 0) = false := decide_eq_false h3
  by_cases h4 : 1000 < f
  · have d4 : decide (1000 < f) = true := decide_eq_true h4
    go_enter Tryd.func6, Tryd.ntmps6
    go_wp2_with fail
    refine (Hbe.out _ ht).mono ?_
    rintro e w1 ⟨rfl, e1⟩
    go_wp2_with fail
    go_ret
    exact ⟨rfl, e1⟩
  have d4 : decide (1000 < f) = false := decide_eq_false h4
  have ho1 := fun W => of_1 W p (by omega) (by omega)
  have ho2 := fun W => of_2 W p (by omega) (by omega)
  have ho3 := fun W => of_3 W p f (by omega) (by omega) (by omega) (by omega)
  have Ho1 := Lib.hid ho1
  have Ho2 := Lib.hid ho2
  have Ho3 := Lib.hid ho3
  clear ho1 ho2 ho3
  go_enter Tryd.func6, Tryd.ntmps6
  go_wp2_with fail
  refine (Hbe.out _ ht).mono ?_
  rintro e w1 ⟨rfl, e1⟩
  go_wp2_with fail
  generalize hV : World.alloc w1 _ = V
  have aV : Arr3 w V w1.heap.size .nilIface .nilIface .nilIface := by
    subst hV
    exact ⟨by go_simp, by go_simp, by go_simp, by go_simp, by go_simp, by go_simp, e1.trans (Ext.alloc _ _)⟩
  have hab : w.heap.size ≤ w1.heap.size := e1.size
  clear hV e1
  generalize w1.heap.size = ab at *
  go_loopw [7] (fun iv wr => vaRel w p f ab iv wr) (fun iv _ => 3 - (intOf iv).toNat)
  case atStart => exact ⟨0, rfl, by omega, aV⟩
  case round =>
    obtain ⟨k, rfl, hk, ha⟩ := hrel
    have hk4 : k = 0 ∨ k = 1 ∨ k = 2 ∨ k = 3 := by omega
    rcases hk4 with rfl | rfl | rfl | rfl
    · obtain ⟨a0, a1, a2, f0, f1, f2, ea⟩ := id ha
      change wr.cell? ⟨ab, 0, none⟩ = some (.nilIface) at a0
      change wr.cell? ⟨ab, 1, none⟩ = some (.nilIface) at a1
      change wr.cell? ⟨ab, 2, none⟩ = some (.nilIface) at a2
      have hl : ab < wr.heap.size := World.block_lt_of_cell? wr _ a0
      have ha2 : Arr3 w wr ab (.nilIface) (.nilIface) (.nilIface) := ⟨a0, a1, a2, f0, f1, f2, ea⟩
      clear ha
      go_wp2_with fail
      generalize hV : World.alloc wr _ = V
      have hav : Arr3 w V ab (.nilIface) (.nilIface) (.nilIface) := by subst hV; exact ha2.ext (Ext.alloc _ _)
      clear hV ha2 a0 a1 a2 f0 f1 f2 ea hl
      refine (Ho1.out V).mono ?_
      rintro e w2 ⟨rfl, e2⟩
      have hav2 := hav.ext e2
      obtain ⟨a0, a1, a2, f0, f1, f2, ea⟩ := id hav2
      have hl : ab < w2.heap.size := World.block_lt_of_cell? w2 _ a0
      have hl2 : w.heap.size ≤ ab := hab
      go_wp2_with fail
      go_roundw
      case rel =>
        refine ⟨1, by go_num, by omega, ?_⟩
        refine (?_ : Arr3 w _ ab (.iface 44 (.agg #[.int .i64 p])) (.nilIface) (.nilIface))
        exact ⟨by go_simp, by go_simp, by go_simp, by go_simp, by go_simp, by go_simp, by repeat (first | exact ea | refine Ext.trans ?_ (Ext.alloc _ _) | refine Below.setCell ?_ (by simp <;> omega) _)⟩
      case measure => simp [intOf]
    · obtain ⟨a0, a1, a2, f0, f1, f2, ea⟩ := id ha
      change wr.cell? ⟨ab, 0, none⟩ = some (.iface 44 (.agg #[.int .i64 p])) at a0
      change wr.cell? ⟨ab, 1, none⟩ = some (.nilIface) at a1
      change wr.cell? ⟨ab, 2, none⟩ = some (.nilIface) at a2
      have hl : ab < wr.heap.size := World.block_lt_of_cell? wr _ a0
      have ha2 : Arr3 w wr ab (.iface 44 (.agg #[.int .i64 p])) (.nilIface) (.nilIface) := ⟨a0, a1, a2, f0, f1, f2, ea⟩
      clear ha
      go_wp2_with fail
      generalize hV : World.alloc wr _ = V
      have hav : Arr3 w V ab (.iface 44 (.agg #[.int .i64 p])) (.nilIface) (.nilIface) := by subst hV; exact ha2.ext (Ext.alloc _ _)
      clear hV ha2 a0 a1 a2 f0 f1 f2 ea hl
      refine (Ho2.out V).mono ?_
      rintro e w2 ⟨rfl, e2⟩
      have hav2 := hav.ext e2
      obtain ⟨a0, a1, a2, f0, f1, f2, ea⟩ := id hav2
      have hl : ab < w2.heap.size := World.block_lt_of_cell? w2 _ a0
      have hl2 : w.heap.size ≤ ab := hab
      go_wp2_with fail
      go_roundw
      case rel =>
        refine ⟨2, by go_num, by omega, ?_⟩
        refine (?_ : Arr3 w _ ab (.iface 44 (.agg #[.int .i64 p])) (.iface 45 (.agg #[.int .i64 p])) (.nilIface))
        exact ⟨by go_simp, by go_simp, by go_simp, by go_simp, by go_simp, by go_simp, by repeat (first | exact ea | refine Ext.trans ?_ (Ext.alloc _ _) | refine Below.setCell ?_ (by simp <;> omega) _)⟩
      case measure => simp [intOf]
    · obtain ⟨a0, a1, a2, f0, f1, f2, ea⟩ := id ha
      change wr.cell? ⟨ab, 0, none⟩ = some (.iface 44 (.agg #[.int .i64 p])) at a0
      change wr.cell? ⟨ab, 1, none⟩ = some (.iface 45 (.agg #[.int .i64 p])) at a1
      change wr.cell? ⟨ab, 2, none⟩ = some (.nilIface) at a2
      have hl : ab < wr.heap.size := World.block_lt_of_cell? wr _ a0
      have ha2 : Arr3 w wr ab (.iface 44 (.agg #[.int .i64 p])) (.iface 45 (.agg #[.int .i64 p])) (.nilIface) := ⟨a0, a1, a2, f0, f1, f2, ea⟩
      clear ha
      go_wp2_with fail
      generalize hV : World.alloc wr _ = V
      have hav : Arr3 w V ab (.iface 44 (.agg #[.int .i64 p])) (.iface 45 (.agg #[.int .i64 p])) (.nilIface) := by subst hV; exact ha2.ext (Ext.alloc _ _)
      clear hV ha2 a0 a1 a2 f0 f1 f2 ea hl
      refine (Ho3.out V).mono ?_
      rintro e w2 ⟨rfl, e2⟩
      have hav2 := hav.ext e2
      obtain ⟨a0, a1, a2, f0, f1, f2, ea⟩ := id hav2
      have hl : ab < w2.heap.size := World.block_lt_of_cell? w2 _ a0
      have hl2 : w.heap.size ≤ ab := hab
      go_wp2_with fail
      go_roundw
      case rel =>
        refine ⟨3, by go_num, by omega, ?_⟩
        refine (?_ : Arr3 w _ ab (.iface 44 (.agg #[.int .i64 p])) (.iface 45 (.agg #[.int .i64 p])) (.iface 47 (.agg #[.int .i64 p, .int .i64 f])))
        exact ⟨by go_simp, by go_simp, by go_simp, by go_simp, by go_simp, by go_simp, by repeat (first | exact ea | refine Ext.trans ?_ (Ext.alloc _ _) | refine Below.setCell ?_ (by simp <;> omega) _)⟩
      case measure => simp [intOf]
    · obtain ⟨a0, a1, a2, f0, f1, f2, ea⟩ := id ha
      change wr.cell? ⟨ab, 0, none⟩ = some (.iface 44 (.agg #[.int .i64 p])) at a0
      change wr.cell? ⟨ab, 1, none⟩ = some (.iface 45 (.agg #[.int .i64 p])) at a1
      change wr.cell? ⟨ab, 2, none⟩ = some (.iface 47 (.agg #[.int .i64 p, .int .i64 f])) at a2
      have hl : ab < wr.heap.size := World.block_lt_of_cell? wr _ a0
      go_wp2_with fail
      generalize hV : World.alloc wr _ = V
      have eV : Ext w V := by subst hV; exact ea.trans (Ext.alloc _ _)
      have c0 : V.cell? ⟨wr.heap.size, 0, none⟩ = some (.iface 44 (.agg #[.int .i64 p])) := by subst hV; go_simp
      have c1 : V.cell? ⟨wr.heap.size, 1, none⟩ = some (.iface 45 (.agg #[.int .i64 p])) := by subst hV; go_simp
      have c2 : V.cell? ⟨wr.heap.size, 2, none⟩ = some (.iface 47 (.agg #[.int .i64 p, .int .i64 f])) := by subst hV; go_simp
      clear hV a0 a1 a2 f0 f1 f2 ea hl ha
      generalize wr.heap.size = cb at *
      apply wp_region_lexN (F := [6, 7, 8]) (R := Below V.heap.size) (Rs := vnRs) (J := fun _ _ => True) (by kernel_rfl) (by kernel_rfl) (Below.refl _) (fun _ _ W => vnRs.ext (Ext.refl W)) (fun _ _ => Below.size) (fun _ _ _ _ _ _ _ _ _ => trivial) (fun _ _ _ => Below.trans) (Ext.drew _) (fun _ => trivial)
      intro σ
      repeat
        apply lexN_ex (by decide) (Below.refl _) (fun _ _ W => vnRs.ext (Ext.refl W))
        · rfl
        · intro W' hR hJ hΦ
          have hR2 : Ext V W' := hR
          have y0 := hR2.cell c0
          have y1 := hR2.cell c1
          have y2 := hR2.cell c2
          go_simp
          first | done | with_reducible rfl
        simp only [Act.put, List.setIfInBounds_toArray, List.set_cons_zero, List.set_cons_succ]
      apply lexN_fresh (vnKeepsA (a := 6) (m := V.heap.size))
      · rfl
      · intro W hR hJ hΦ
        refine ⟨.pointer (some ⟨W.heap.size, 0, none⟩), W.alloc (.cells #[.nilIface] 28), ?_, ⟨W.heap.size, rfl, Nat.le_refl _, by simp⟩, Below.mono (Ext.alloc _ _) hR.size, vnRs.ext (Ext.alloc _ _), W.heap.size, upd_eq, hR.size, ⟨.nilIface, by go_simp⟩, by go_simp⟩
        go_simp
        first | done | rfl
      simp only [Act.put, List.setIfInBounds_toArray, List.set_cons_zero, List.set_cons_succ]
      apply lexN_fresh (vnKeepsA (a := 7) (m := V.heap.size))
      · rfl
      · intro W hR hJ hΦ
        refine ⟨.pointer (some ⟨W.heap.size, 0, none⟩), W.alloc (.cells #[.nilIface] 28), ?_, ⟨W.heap.size, rfl, Nat.le_refl _, by simp⟩, Below.mono (Ext.alloc _ _) hR.size, vnRs.ext (Ext.alloc _ _), W.heap.size, upd_eq, hR.size, ⟨.nilIface, by go_simp⟩, by go_simp⟩
        go_simp
        first | done | rfl
      simp only [Act.put, List.setIfInBounds_toArray, List.set_cons_zero, List.set_cons_succ]
      apply lexN_fresh (vnKeepsA (a := 8) (m := V.heap.size))
      · rfl
      · intro W hR hJ hΦ
        refine ⟨.pointer (some ⟨W.heap.size, 0, none⟩), W.alloc (.cells #[.nilIface] 28), ?_, ⟨W.heap.size, rfl, Nat.le_refl _, by simp⟩, Below.mono (Ext.alloc _ _) hR.size, vnRs.ext (Ext.alloc _ _), W.heap.size, upd_eq, hR.size, ⟨.nilIface, by go_simp⟩, by go_simp⟩
        go_simp
        first | done | rfl
      simp only [Act.put, List.setIfInBounds_toArray, List.set_cons_zero, List.set_cons_succ]
      apply lexN_store (by decide) (vnKeepsS (k := 9) (a := 6) (m := V.heap.size) (v := .iface 44 (.agg #[.int .i64 p])) (by decide) (by kernel_rfl) (by kernel_rfl) (by kernel_rfl))
      · rfl
      · intro W hR hJ hΦ
        obtain ⟨g, hσ, hg, ⟨u, hu⟩, hfz⟩ := hΦ.2.2.1 (by rfl)
        refine ⟨W.setCell ⟨g, 0, none⟩ (.iface 44 (.agg #[.int .i64 p])), ?_, below_of_grown (grown_setC W g 0 _) hR.size (fun k e => by cases e; exact hg), vnRs.store _ (by simp [vnRow, hσ, blkOf]), g, by rw [upd_ne (by decide)]; exact hσ, hg, by go_simp⟩
        rw [hσ]
        go_simp
        first | done | rfl
      simp only [Act.put]
      apply lexN_store (by decide) (vnKeepsS (k := 10) (a := 7) (m := V.heap.size) (v := .iface 45 (.agg #[.int .i64 p])) (by decide) (by kernel_rfl) (by kernel_rfl) (by kernel_rfl))
      · rfl
      · intro W hR hJ hΦ
        obtain ⟨g, hσ, hg, ⟨u, hu⟩, hfz⟩ := hΦ.2.2.1 (by rfl)
        refine ⟨W.setCell ⟨g, 0, none⟩ (.iface 45 (.agg #[.int .i64 p])), ?_, below_of_grown (grown_setC W g 0 _) hR.size (fun k e => by cases e; exact hg), vnRs.store _ (by simp [vnRow, hσ, blkOf]), g, by rw [upd_ne (by decide)]; exact hσ, hg, by go_simp⟩
        rw [hσ]
        go_simp
        first | done | rfl
      simp only [Act.put]
      apply lexN_store (by decide) (vnKeepsS (k := 11) (a := 8) (m := V.heap.size) (v := .iface 47 (.agg #[.int .i64 p, .int .i64 f])) (by decide) (by kernel_rfl) (by kernel_rfl) (by kernel_rfl))
      · rfl
      · intro W hR hJ hΦ
        obtain ⟨g, hσ, hg, ⟨u, hu⟩, hfz⟩ := hΦ.2.2.1 (by rfl)
        refine ⟨W.setCell ⟨g, 0, none⟩ (.iface 47 (.agg #[.int .i64 p, .int .i64 f])), ?_, below_of_grown (grown_setC W g 0 _) hR.size (fun k e => by cases e; exact hg), vnRs.store _ (by simp [vnRow, hσ, blkOf]), g, by rw [upd_ne (by decide)]; exact hσ, hg, by go_simp⟩
        rw [hσ]
        go_simp
        first | done | rfl
      simp only [Act.put]
      refine lexN_nil ?_
      intro W hR hap hΦ
      obtain ⟨ga, hσa, _, ca⟩ := hΦ.1 rfl
      obtain ⟨gl, hσl, _, cl⟩ := hΦ.2.1 rfl
      obtain ⟨gq, hσq, _, cq⟩ := hΦ.2.2.1 rfl
      rw [hσa, hσl, hσq]
      have hR2 : Ext V W := hR
      have xW := eV.trans hR2
      clear hΦ hap hσa hσl hσq hR hR2 c0 c1 c2 eV Ho1 Ho2 Ho3 Hbe
      have hfr := fun W => frame_3 W p f
      have hfr2 := fun W => frame_2 W p
      have hra := fun W => raw_3 W p f
      have hra1 := fun W => raw_1 W p
      have hra2 := fun W => raw_2 W p
      have hp1 := fun W => player_1 W p
      have hp2 := fun W => player_2 W p
      have hp3 := fun W => player_3 W p f
      have Hfr := Lib.hid hfr
      have Hfr2 := Lib.hid hfr2
      have Hra := Lib.hid hra
      have Hra1 := Lib.hid hra1
      have Hra2 := Lib.hid hra2
      have Hp1 := Lib.hid hp1
      have Hp2 := Lib.hid hp2
      have Hp3 := Lib.hid hp3
      clear hfr hfr2 hra hra1 hra2 hp1 hp2 hp3
      have hfd1 : ∀ W : World, (Instr.field 23 (.agg #[.int .i64 1, .int .i64 p, .int .i64 0]) 0).run Tryd.prog W = .ok (.int .i64 1) W := fun W => by kernel_rfl
      have hfd2 : ∀ W : World, (Instr.field 23 (.agg #[.int .i64 2, .int .i64 p, .int .i64 0]) 0).run Tryd.prog W = .ok (.int .i64 2) W := fun W => by kernel_rfl
      go_wp2_with fail
      refine (Hfr.out _).mono ?_
      rintro e w20 ⟨rfl, e20⟩
      have ca := e20.cell ca
      have cl := e20.cell cl
      have cq := e20.cell cq
      have x20 := xW.trans e20
      go_wp2_with fail
      refine (Hfr2.out _).mono ?_
      rintro e w21 ⟨rfl, e21⟩
      have ca := e21.cell ca
      have cl := e21.cell cl
      have cq := e21.cell cq
      have x21 := x20.trans e21
      go_wp2_with fail
      refine (Hra.out _).mono ?_
      rintro e w22 ⟨rfl, e22⟩
      have ca := e22.cell ca
      have cl := e22.cell cl
      have cq := e22.cell cq
      have x22 := x21.trans e22
      have hsa : ga < w22.heap.size := World.block_lt_of_cell? w22 _ ca
      have hsl : gl < w22.heap.size := World.block_lt_of_cell? w22 _ cl
      have hsq : gq < w22.heap.size := World.block_lt_of_cell? w22 _ cq
      go_wp2_with fail
      generalize hV : World.alloc w22 _ = V3
      have x23 : Ext w V3 := by subst hV; exact x22.trans (Ext.alloc _ _)
      have ca : V3.cell? ⟨ga, 0, none⟩ = some (.iface 47 (.agg #[.int .i64 p, .int .i64 f])) := by subst hV; exact (Ext.alloc _ _).cell ca
      have cl : V3.cell? ⟨gl, 0, none⟩ = some (.iface 45 (.agg #[.int .i64 p])) := by subst hV; exact (Ext.alloc _ _).cell cl
      have cq : V3.cell? ⟨gq, 0, none⟩ = some (.iface 44 (.agg #[.int .i64 p])) := by subst hV; exact (Ext.alloc _ _).cell cq
      have r0 : V3.cell? ⟨w22.heap.size, 0, none⟩ = some (.int .i64 3) := by subst hV; go_simp
      have r1 : V3.cell? ⟨w22.heap.size, 1, none⟩ = some (.int .i64 p) := by subst hV; go_simp
      have r2 : V3.cell? ⟨w22.heap.size, 2, none⟩ = some (.int .i64 f) := by subst hV; go_simp
      clear hV hsa hsl hsq
      refine (Hp1.out _).mono ?_
      rintro e w24 ⟨rfl, e24⟩
      have ca := e24.cell ca
      have r0 := e24.cell r0
      have r1 := e24.cell r1
      have r2 := e24.cell r2
      have cl := e24.cell cl
      have cq := e24.cell cq
      have x24 := x23.trans e24
      go_wp2_with fail
      refine (Hp2.out _).mono ?_
      rintro e w25 ⟨rfl, e25⟩
      have ca := e25.cell ca
      have r0 := e25.cell r0
      have r1 := e25.cell r1
      have r2 := e25.cell r2
      have cl := e25.cell cl
      have cq := e25.cell cq
      have x25 := x24.trans e25
      go_wp2_with fail
      refine (Hp3.out _).mono ?_
      rintro e w26 ⟨rfl, e26⟩
      have ca := e26.cell ca
      have r0 := e26.cell r0
      have r1 := e26.cell r1
      have r2 := e26.cell r2
      have cl := e26.cell cl
      have cq := e26.cell cq
      have x26 := x25.trans e26
      go_wp2_with fail
      refine (Hra1.out _).mono ?_
      rintro e w27 ⟨rfl, e27⟩
      have ca := e27.cell ca
      have r0 := e27.cell r0
      have r1 := e27.cell r1
      have r2 := e27.cell r2
      have cl := e27.cell cl
      have cq := e27.cell cq
      have x27 := x26.trans e27
      go_wp2_with fail
      refine (Hra2.out _).mono ?_
      rintro e w28 ⟨rfl, e28⟩
      have ca := e28.cell ca
      have r0 := e28.cell r0
      have r1 := e28.cell r1
      have r2 := e28.cell r2
      have cl := e28.cell cl
      have cq := e28.cell cq
      have x28 := x27.trans e28
      go_wp2_with fail
      go_ret
      exact ⟨by simp, x28⟩
end Go.Proofs.YtihegdjdgklbgaaDoor
