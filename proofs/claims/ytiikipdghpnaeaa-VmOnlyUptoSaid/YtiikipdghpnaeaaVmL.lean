/- One frame of the law's own: begun of law 9. -/
import Derived.Test.YtiikipdghpnaeaaVmB
namespace Go.Proofs.Ytiikipdghpnaeaa
open Go.RowKit
set_option linter.unusedVariables false

/-- The noughts of a game, written out. -/
abbrev zero32 : Array Value := #[.int .i32 0, .int .i32 0, .int .i32 0, .int .i32 0, .int .i32 0, .int .i32 0, .int .i32 0, .int .i32 0, .int .i32 0, .int .i32 0, .int .i32 0, .int .i32 0, .int .i32 0, .int .i32 0, .int .i32 0, .int .i32 0, .int .i32 0, .int .i32 0, .int .i32 0, .int .i32 0, .int .i32 0, .int .i32 0, .int .i32 0, .int .i32 0, .int .i32 0, .int .i32 0, .int .i32 0, .int .i32 0, .int .i32 0, .int .i32 0, .int .i32 0, .int .i32 0]
theorem Blk.zero (w : World) (T : TypeId) {b : Nat} (hb : b = w.heap.size) : Blk (w.alloc (.cells zero32 T)) b T zeroG := Blk.new' w T (g := zeroG) rfl hb

def begOps : List OpT := [(1, 1, 1, 0), (11, 2, 1, 0), (14, 3, 1, 0), (15, 4, 0, 0), (0, 0, 0, 0), (1, 2, 9, 0)]
/-- A game that a call handed back is laid into a variable of its own. -/
theorem wpList_put_new {P : Program} (w : World) {ops : Array Oper} {rest : List Oper} {o : Oper} {a : Act} {Q : Exit → Act → World → Prop} (hgd : o.guard = none) (ty : TypeId) (x y : Operand) (ho : o.op = .store ty x y)
    {T : TypeId} (hx : a.eval x = .pointer (some ⟨w.heap.size, 0, none⟩)) {g' : List Int} (hy : a.eval y = .agg (gcs g')) (hg : g'.length = 32) (hi : (P.info? ty).map (·.size) = some 32)
    (hk : ∀ W2, Blk W2 w.heap.size T g' → Ext w W2 → W2.heap.size = w.heap.size + 1 → wpList P ops Q rest (a.put o.dst undef) W2) : wpList P ops Q (o :: rest) a (w.alloc (.cells zero32 T)) :=
  wpList_put_game hgd ty x y ho hx hy (Blk.zero w T rfl) hg hi fun W2 b2 x2 _ s2 => hk W2 b2 (x2 w (Ext.alloc _ _) (Nat.le_refl _)) (by rw [s2]; simp)
/-- The law's mem: a game, and whether a cell was asked for that is none. -/
def Mm (w : World) (b : Nat) (g : List Int) : Prop := Gm w b g ∧ w.cell? ⟨b, 32, none⟩ = some (.bool false)
theorem Mm.new (w : World) (T : TypeId) {g : List Int} (hg : g.length = 32) {b : Nat} (hb : b = w.heap.size) : Mm (w.alloc (.cells (gcs g ++ #[.bool false]) T)) b g := by
  subst hb
  have h := heap_alloc_new w (.cells (gcs g ++ #[.bool false]) T)
  have hs := gcs_size g
  refine ⟨⟨hg, fun j hj => ⟨?_, by simp only [World.frozen?]; rw [h]; simp⟩⟩, ?_⟩
  · rw [cell_of_row _ _ _ _ _ _ h, Array.getElem?_append_left (by omega)]
    exact gcs_at (by omega)
  · rw [cell_of_row _ _ _ _ _ _ h, Array.getElem?_append_right (by omega), hs, hg]; rfl
theorem Mm.played {w w' : World} {b : Nat} {g g' : List Int} (h : Mm w b g) (hg : Gm w' b g') (hp : Played w w' b) : Mm w' b g' := ⟨hg, ((hp.2 32 (Nat.le_refl _)).1).trans h.2⟩
theorem Mm.ext {w w' : World} {b : Nat} {g : List Int} (h : Mm w b g) (e : Ext w w') : Mm w' b g := ⟨h.1.ext e, e.cell h.2⟩
def begG : List Int := [0, 1, 6, 98, 7] ++ List.replicate 27 0
theorem beg_game : (stepN [97, 98] [5, 6] 7 begOps zeroG).1 = begG := by decide +kernel
theorem beg_mem : (stepN [97, 98] [] 7 begOps zeroG) = ([0, 1, 0, 98, 7] ++ List.replicate 27 0, 5) := by decide +kernel

theorem rb_new {w : World} {l : List UInt8} {B n c : Nat} {t : TypeId} (hB : B = w.heap.size) (hn : n = l.length) (hc : c = l.length) (hm : l.length ≤ 1000) : Rb (w.alloc (.cells (bcs l).toArray t)) (some ⟨B, 0, none⟩) n c l := by
  subst hB hn hc
  exact Rd.made w t 1 (bcs l) l.length (by rw [bcs_length]; omega) (by have : maxLen = 9223372036854775807 := rfl; omega)
theorem beg_len : begG.length = 32 := rfl
set_option maxRecDepth 100000 in
set_option maxHeartbeats 2000000 in
theorem begun9_any (w : World) : Calls Try.prog 13 #[] w (Yes w) := by
  go_enter Try.func13, Try.ntmps13
  go_wp2_with fail
  generalize hV : World.alloc (World.alloc (World.alloc w _) _) _ = V
  have eV : Ext w V := by subst hV; exact ((Ext.alloc _ _).trans (Ext.alloc _ _)).trans (Ext.alloc _ _)
  have lV : Ro V (some ⟨w.heap.size, 0, none⟩) 6 6 begOps := by subst hV; exact ((ro_new rfl rfl rfl (by decide)).ext (Ext.alloc _ _)).ext (Ext.alloc _ _)
  have pV : Rb V (some ⟨w.heap.size + 1 + 1, 0, none⟩) 2 2 [5, 6] := by subst hV; exact rb_new (by simp) rfl rfl (by decide)
  have c0 : V.cell? ⟨w.heap.size + 1, 0, none⟩ = some (.string { data := #[97, 98] }) := by subst hV; go_simp
  have c1 : V.cell? ⟨w.heap.size + 1, 1, none⟩ = some (.slice (some ⟨w.heap.size, 0, none⟩) 6 6) := by subst hV; go_simp
  clear hV
  have hst := step_any V [97, 98] _ 6 6 begOps 7 _ 2 2 [5, 6] zeroG (by decide) lV pV zeroG_ok
  rw [beg_game] at hst
  unfold pAgg at hst
  have Hst := Lib.hid hst
  clear hst
  refine Calls.mono Hst.out ?_
  rintro e w1 ⟨rfl, e1⟩
  have d0 := e1.cell c0
  have d1 := e1.cell c1
  have x1 := eV.trans e1
  have hw1 : w.heap.size + 1 < w1.heap.size := World.block_lt_of_cell? w1 _ d0
  clear Hst
  go_wp2_with ((with_reducible refine wpList_put_new _ rfl 31 (.tmp 2) (.tmp 15) rfl rfl rfl beg_len size_state ?_); intro W2 b2 x2 s2; have hs2 : w1.heap.size < W2.heap.size := b2.lt; have hs3 : w.heap.size + 1 < W2.heap.size := (by omega); have f2 : W2.cell? ⟨w1.heap.size, 2, none⟩ = some (.int .i32 6) := (b2.gm.2 2 (by decide)).1; have f3 : W2.cell? ⟨w1.heap.size, 3, none⟩ = some (.int .i32 98) := (b2.gm.2 3 (by decide)).1; have f4 : W2.cell? ⟨w1.heap.size, 4, none⟩ = some (.int .i32 7) := (b2.gm.2 4 (by decide)).1; have d0 := x2.cell d0; have d1 := x2.cell d1; have eW := x2; have xW := x1.trans x2; clear b2 x2 s2)
  have mV := Mm.new W2 39 zeroG_ok.1 rfl
  have lW := (lV.ext (e1.trans eW)).ext (Ext.alloc W2 (.cells (gcs zeroG ++ #[.bool false]) 39))
  have x3 := xW.trans (Ext.alloc W2 (.cells (gcs zeroG ++ #[.bool false]) 39))
  have hrun := run_any _ W2.heap.size 37 [97, 98] _ 6 6 begOps 7 none 0 0 [] zeroG (memI_mem _) (by decide) lW (Rb.nil_ _) mV.1 zeroG_ok (fun _ a ha => by cases ha; simp only; omega) (fun h => absurd h (by decide)) rfl rfl
  rw [beg_mem] at hrun
  unfold pAgg at hrun
  have Hrun := Lib.hid hrun
  have hnil := fun W => run_nil W [97, 98] (some ⟨w.heap.size, 0, none⟩) 6 6 0 none 0 0
  unfold pAgg at hnil
  have Hnil := Lib.hid hnil
  clear hrun hnil
  refine Calls.mono Hrun.out ?_
  rintro e w3 ⟨rfl, g3, p3⟩
  have m3 := mV.played g3 p3
  have x4 : Ext w w3 := Below.trans x3 (below_of_grown p3.1 x3.size (fun k hk => by cases hk; exact Nat.le_trans xW.size (Nat.le_refl _)))
  have f2 : w3.cell? ⟨W2.heap.size, 2, none⟩ = some (.int .i32 0) := (g3.2 2 (by decide)).1
  have f32 := m3.2
  have d0 := p3.1.cell ((Ext.alloc _ _).cell d0) (by simp; omega)
  have d1 := p3.1.cell ((Ext.alloc _ _).cell d1) (by simp; omega)
  clear m3 g3 p3 mV lW Hrun
  go_wp2_with fail
  refine (Hnil.out _).mono ?_
  rintro e w4 ⟨rfl, e4⟩
  go_wp2_with fail
  go_ret
  exact ⟨rfl, x4.trans e4⟩
end Go.Proofs.Ytiikipdghpnaeaa
