/- Words for games that laws keep: a variable of noughts, a game laid into one, cells by their numbers, games compared. -/
import Derived.Test.YtihegdjdgklbgaaVmB
namespace Go.Proofs.Ytihegdjdgklbgaa
set_option maxRecDepth 100000
open Go.RowKit
set_option linter.unusedVariables false

/-- The noughts of a game, written out. -/
abbrev zero32 : Array Value := #[.int .i32 0, .int .i32 0, .int .i32 0, .int .i32 0, .int .i32 0, .int .i32 0, .int .i32 0, .int .i32 0, .int .i32 0, .int .i32 0, .int .i32 0, .int .i32 0, .int .i32 0, .int .i32 0, .int .i32 0, .int .i32 0, .int .i32 0, .int .i32 0, .int .i32 0, .int .i32 0, .int .i32 0, .int .i32 0, .int .i32 0, .int .i32 0, .int .i32 0, .int .i32 0, .int .i32 0, .int .i32 0, .int .i32 0, .int .i32 0, .int .i32 0, .int .i32 0]
theorem Blk.zero (w : World) (T : TypeId) {b : Nat} (hb : b = w.heap.size) : Blk (w.alloc (.cells zero32 T)) b T zeroG := Blk.new' w T (g := zeroG) rfl hb

/-- A game that a call handed back is laid into a variable of its own. -/
theorem wpList_put_new {P : Program} (w : World) {ops : Array Oper} {rest : List Oper} {o : Oper} {a : Act} {Q : Exit → Act → World → Prop} (hgd : o.guard = none) (ty : TypeId) (x y : Operand) (ho : o.op = .store ty x y)
    {T : TypeId} (hx : a.eval x = .pointer (some ⟨w.heap.size, 0, none⟩)) {g' : List Int} (hy : a.eval y = .agg (gcs g')) (hg : g'.length = 32) (hi : (P.info? ty).map (·.size) = some 32)
    (hk : ∀ W2, Blk W2 w.heap.size T g' → Ext w W2 → W2.heap.size = w.heap.size + 1 → wpList P ops Q rest (a.put o.dst undef) W2) : wpList P ops Q (o :: rest) a (w.alloc (.cells zero32 T)) :=
  wpList_put_game hgd ty x y ho hx hy (Blk.zero w T rfl) hg hi fun W2 b2 x2 _ s2 => hk W2 b2 (x2 w (Ext.alloc _ _) (Nat.le_refl _)) (by rw [s2]; simp)
theorem rb_new {w : World} {l : List UInt8} {B n c : Nat} {t : TypeId} (hB : B = w.heap.size) (hn : n = l.length) (hc : c = l.length) (hm : l.length ≤ 1000) : Rb (w.alloc (.cells (bcs l).toArray t)) (some ⟨B, 0, none⟩) n c l := by
  subst hB hn hc
  exact Rd.made w t 1 (bcs l) l.length (by rw [bcs_length]; omega) (by have : maxLen = 9223372036854775807 := rfl; omega)
theorem getN_set {g : List Int} (hg : g.length = 32) {i : Int} (h0 : 0 ≤ i) (h1 : i ≤ 31) (v : Int) : getN (setN g i v) i = v := by
  unfold getN setN
  rw [List.getD_eq_getElem?_getD, List.getElem?_set_self (by omega)]; rfl
theorem getN_set_ne {g : List Int} {i j : Int} (h0 : 0 ≤ i) (h1 : 0 ≤ j) (h : i ≠ j) (v : Int) : getN (setN g i v) j = getN g j := by
  unfold getN setN
  rw [List.getD_eq_getElem?_getD, List.getElem?_set_ne (by omega), ← List.getD_eq_getElem?_getD]
theorem setN_len (g : List Int) (i v : Int) : (setN g i v).length = g.length := by simp [setN]
/-- A cell, by its number. -/
theorem Gm.cell_ {w : World} {b : Nat} {g : List Int} (h : Gm w b g) (j : Nat) (hj : j < 32) {v : Int} (hv : getN g (j : Nat) = v) : w.cell? ⟨b, j, none⟩ = some (.int .i32 v) := by
  rw [(h.2 j hj).1, ← hv]; rfl

theorem eq_game (w : World) {G : List Int} (h : G.length = 32) : (Op.equalIn 10000 33 (.agg (gcs G)) (.agg (gcs G))).run Try.prog w = .ok true w := by
  rw [run_eq_games w 9998 33 21 32 Try.underlying33 Try.underlying21 (fun w => by kernel_rfl) G G h h]
  simp
theorem guard_game : Try.prog.eqGuardType Try.prog.depth 33 = false := by kernel_rfl

end Go.Proofs.Ytihegdjdgklbgaa
