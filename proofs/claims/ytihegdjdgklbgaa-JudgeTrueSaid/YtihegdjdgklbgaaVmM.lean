/- Words for a game in memory: 32 cells at the head of a block; a frame's box; what a frame leaves. -/
import Derived.Test.YtihegdjdgklbgaaVmP
import Derived.Test.YtihegdjdgklbgaaChkL
namespace Go.Proofs.Ytihegdjdgklbgaa
set_option maxRecDepth 100000
open Go.RowKit

/-- A game in memory. -/
def Gm (w : World) (b : Nat) (g : List Int) : Prop := g.length = 32 ∧ ∀ j, j < 32 → w.cell? ⟨b, j, none⟩ = some (.int .i32 (g.getD j 0)) ∧ w.frozen? ⟨b, j, none⟩ = false
section
variable {w w' : World} {b : Nat} {g : List Int}
theorem Gm.lt (h : Gm w b g) : b < w.heap.size := World.block_lt_of_cell? w _ (h.2 0 (by decide)).1
theorem Gm.at_ (h : Gm w b g) {i : Int} (h0 : 0 ≤ i) (h1 : i ≤ 31) : w.cell? ⟨b, i.toNat, none⟩ = some (.int .i32 (getN g i)) ∧ w.frozen? ⟨b, i.toNat, none⟩ = false := h.2 i.toNat (by omega)
theorem Gm.of_block (h : Gm w b g) (e : w'.heap[b]? = w.heap[b]?) : Gm w' b g :=
  ⟨h.1, fun j hj => ⟨(World.cell?_of_block (a := ⟨b, j, none⟩) e).trans (h.2 j hj).1, by have := (h.2 j hj).2; simp only [World.frozen?] at this ⊢; rw [e]; exact this⟩⟩
theorem Gm.keep {B : Nat} (h : Gm w b g) (e : Below B w w') (hB : b < B) : Gm w' b g := h.of_block (e.block b hB)
theorem Gm.ext (h : Gm w b g) (e : Ext w w') : Gm w' b g := h.keep e h.lt
theorem Gm.grown (h : Gm w b g) {row : Option Nat} (hg : w.grownBy w' row) (hne : row ≠ some b) : Gm w' b g := h.of_block (hg.block b h.lt (fun e => hne e.symm))
theorem Gm.set_ (h : Gm w b g) {i : Int} (h0 : 0 ≤ i) (h1 : i ≤ 31) (v : Int) : Gm (w.setCell ⟨b, i.toNat, none⟩ (.int .i32 v)) b (setN g i v) := by
  refine ⟨by simp [setN, h.1], fun j hj => ?_⟩
  obtain ⟨c1, c2⟩ := h.2 j hj
  obtain ⟨d1, _⟩ := h.2 i.toNat (by omega)
  by_cases e : j = i.toNat
  · subst e
    refine ⟨?_, by go_simp⟩
    have : (setN g i v).getD i.toNat 0 = v := by unfold setN; rw [List.getD_eq_getElem?_getD, List.getElem?_set_self (by rw [h.1]; omega)]; rfl
    rw [this]
    go_simp
  · refine ⟨?_, by go_simp⟩
    have : (setN g i v).getD j 0 = g.getD j 0 := by unfold setN; rw [List.getD_eq_getElem?_getD, List.getElem?_set_ne (fun h => e h.symm), ← List.getD_eq_getElem?_getD]
    rw [this]
    have hne : (⟨b, j, none⟩ : Addr) ≠ ⟨b, i.toNat, none⟩ := fun h => e (by injection h)
    go_simp
end
end Go.Proofs.Ytihegdjdgklbgaa
