/- A whole game by value: out of memory, into memory, compared. -/
import Derived.Test.YtihegdjdgklbgaaVmX
import Derived.Laws.Rows
import Derived.Laws.StructEq
namespace Go.Proofs.Ytihegdjdgklbgaa
set_option maxRecDepth 100000
open Go.RowKit

/-- A game's cells. -/
def gcs (g : List Int) : Array Value := (g.map (Value.int .i32)).toArray
theorem gcs_size (g : List Int) : (gcs g).size = g.length := by simp [gcs]
theorem gcs_at {g : List Int} {j : Nat} (h : j < g.length) : (gcs g)[j]? = some (.int .i32 (g.getD j 0)) := by
  simp [gcs, List.getD, h]
theorem gcs_one (g : List Int) : (gcs g).all (·.oneCell') = true := by
  rw [Array.all_eq_true_iff_forall_mem]
  intro v hv
  simp only [gcs, List.mem_toArray, List.mem_map] at hv
  obtain ⟨x, _, rfl⟩ := hv
  rfl
def zeroG : List Int := List.replicate 32 0
theorem zeroG_ok : okG zeroG := by
  refine ⟨rfl, fun x hx => ?_⟩
  rw [List.eq_of_mem_replicate hx]; simp [ok32]

section
variable {P : Program} {w w' : World} {b : Nat} {g : List Int}
/-- A block that is a game and no more. -/
def Blk (w : World) (b : Nat) (T : TypeId) (g : List Int) : Prop := w.heap[b]? = some (.cells (gcs g) T (0, 0)) ∧ g.length = 32
theorem Blk.gm {T : TypeId} (h : Blk w b T g) : Gm w b g := by
  refine ⟨h.2, fun j hj => ⟨?_, by simp [World.frozen?, h.1]⟩⟩
  rw [cell_of_row _ _ _ _ _ _ h.1]
  exact gcs_at (by rw [h.2]; exact hj)
theorem Blk.ext {T : TypeId} (h : Blk w b T g) (e : Ext w w') : Blk w' b T g := ⟨(e.block b (Array.getElem?_eq_some_iff.1 h.1).1).trans h.1, h.2⟩
theorem Blk.new (w : World) (T : TypeId) {g : List Int} (hg : g.length = 32) : Blk (w.alloc (.cells (gcs g) T)) w.heap.size T g := ⟨heap_alloc_new w _, hg⟩
theorem Blk.new' (w : World) (T : TypeId) {g : List Int} (hg : g.length = 32) {b : Nat} (hb : b = w.heap.size) : Blk (w.alloc (.cells (gcs g) T)) b T g := hb ▸ Blk.new w T hg
theorem Blk.of_block {T : TypeId} (h : Blk w b T g) (e : w'.heap[b]? = w.heap[b]?) : Blk w' b T g := ⟨e.trans h.1, h.2⟩
theorem Blk.grown {T : TypeId} (h : Blk w b T g) {row : Option Nat} (hg : w.grownBy w' row) (hne : row ≠ some b) : Blk w' b T g := h.of_block (hg.block b (Array.getElem?_eq_some_iff.1 h.1).1 (fun e => hne e.symm))
theorem Blk.lt {T : TypeId} (h : Blk w b T g) : b < w.heap.size := (Array.getElem?_eq_some_iff.1 h.1).1
theorem Blk.setRow {T : TypeId} (h : Blk w b T g) {g' : List Int} (hg : g'.length = 32) : Blk (w.setRow b (gcs g')) b T g' := ⟨setRow_heap w b _ _ _ _ h.1, hg⟩
theorem Gm.setRow {c : Nat} {cs : Array Value} (h : Gm w b g) (hne : c ≠ b) : Gm (w.setRow c cs) b g := h.of_block (setRow_other w c b cs (fun e => hne e.symm))
theorem Blk.setRow_other {T : TypeId} {c : Nat} {cs : Array Value} (h : Blk w b T g) (hne : c ≠ b) : Blk (w.setRow c cs) b T g := h.of_block (Go.setRow_other w c b cs (fun e => hne e.symm))
theorem Ext.setRow {a : World} (h : Ext w a) {c : Nat} (hc : w.heap.size ≤ c) (cs : Array Value) : Ext w (a.setRow c cs) :=
  ⟨h.os, h.tape, h.output, by simp; exact h.size, fun k hk => (Go.setRow_other a c k cs (by omega)).trans (h.block k hk)⟩

theorem gm_load {ty e : TypeId} (hu : P.underlying ty = some (.array 32 e)) (hi : (P.info? ty).map (·.size) = some 32) (h : Gm w b g) : (loadVar ty ⟨b, 0, none⟩).run P w = .ok (.agg (gcs g)) w := by
  have hl : (loadCells ⟨b, 0, none⟩ (g.map (Value.int .i32)).length).run P w = .ok (g.map (Value.int .i32)).toArray w :=
    run_loadCells_list (P := P) w ⟨b, 0, none⟩ _ (fun j v hv => by
      rw [Addr.add_lit, Nat.zero_add]
      have hj : j < g.length := by simpa using (List.getElem?_eq_some_iff.1 hv).1
      have h2 := gcs_at hj
      simp only [gcs, List.getElem?_toArray] at h2
      rw [hv] at h2
      rw [(h.2 j (by rw [← h.1]; exact hj)).1, ← h2])
  cases hq : P.info? ty with
  | none => simp [hq] at hi
  | some i =>
    have hs : i.size = 32 := by simpa [hq] using hi
    have hagg : (isAgg ty).run P w = .ok true w := by
      unfold isAgg
      rw [Sem.run_bind, run_underlying hu w]
      simp
    rw [List.length_map, h.1] at hl
    simp [loadVar, Sem.run_bind, hagg, sizeOf, typeInfo, hq, hs, hl, gcs]
theorem exec_load_gm {o : Oper} {a : Act} (ty : TypeId) (x : Operand) (ho : o.op = .load ty x) (hx : a.eval x = .pointer (some ⟨b, 0, none⟩)) {e : TypeId} (hu : P.underlying ty = some (.array 32 e)) (hi : (P.info? ty).map (·.size) = some 32) (h : Gm w b g) :
    (execOp a.eval o).run P w = .ok (.value (.agg (gcs g))) w := by
  unfold execOp
  simp only [ho, hx, Instr.loadAt, Instr.sureAddr, Sem.run_bind, Sem.run_pure, Result.andThen_ok, gm_load hu hi h]
theorem wpList_load_gm {ops : Array Oper} {rest : List Oper} {o : Oper} {a : Act} {Q : Exit → Act → World → Prop} (hgd : o.guard = none) (ty : TypeId) (x : Operand) (ho : o.op = .load ty x)
    (hx : a.eval x = .pointer (some ⟨b, 0, none⟩)) {e : TypeId} (hu : P.underlying ty = some (.array 32 e)) (hi : (P.info? ty).map (·.size) = some 32) (h : Gm w b g)
    (hk : wpList P ops Q rest (a.put o.dst (.agg (gcs g))) w) : wpList P ops Q (o :: rest) a w := by
  refine wpList_plain hgd fun K hK => ?_
  unfold Oper.wp execOp
  simp only [ho, hx, Instr.loadAt, Instr.sureAddr, Sem.run_bind, Sem.run_pure, Result.andThen_ok, gm_load hu hi h]
  exact hK _ _ hk
theorem wpList_store_blk {ops : Array Oper} {rest : List Oper} {o : Oper} {a : Act} {Q : Exit → Act → World → Prop} (hgd : o.guard = none) (ty : TypeId) (x y : Operand) (ho : o.op = .store ty x y)
    (hx : a.eval x = .pointer (some ⟨b, 0, none⟩)) {g' : List Int} (hy : a.eval y = .agg (gcs g')) {T : TypeId} (h : Blk w b T g) (hg : g'.length = 32) (hi : (P.info? ty).map (·.size) = some 32)
    (hk : wpList P ops Q rest (a.put o.dst undef) (w.setRow b (gcs g'))) : wpList P ops Q (o :: rest) a w :=
  wpList_store_row hgd ty x y ho b (gcs g') hx hy T (gcs g) h.1 (by rw [hi, gcs_size, hg]) (by rw [gcs_size, gcs_size, hg, h.2]) (gcs_one _) hk
/-- The same, the world behind it under a name of its own. -/
theorem wpList_put_game {ops : Array Oper} {rest : List Oper} {o : Oper} {a : Act} {Q : Exit → Act → World → Prop} (hgd : o.guard = none) (ty : TypeId) (x y : Operand) (ho : o.op = .store ty x y)
    (hx : a.eval x = .pointer (some ⟨b, 0, none⟩)) {g' : List Int} (hy : a.eval y = .agg (gcs g')) {T : TypeId} (h : Blk w b T g) (hg : g'.length = 32) (hi : (P.info? ty).map (·.size) = some 32)
    (hk : ∀ W2, Blk W2 b T g' → (∀ w0 : World, Ext w0 w → w0.heap.size ≤ b → Ext w0 W2) → w.grownBy W2 (some b) → W2.heap.size = w.heap.size → wpList P ops Q rest (a.put o.dst undef) W2) : wpList P ops Q (o :: rest) a w :=
  wpList_store_blk hgd ty x y ho hx hy h hg hi (hk _ (h.setRow hg) (fun w0 e hb => e.setRow hb _) ⟨rfl, rfl, rfl, by simp, fun k _ hk => Go.setRow_other w b k _ (fun e => hk (by rw [e]))⟩ (by simp))
/-- A result that lies in a block. -/
theorem result_gm {fn : Func} {p : Tmp} {ty e : TypeId} (h : fn.results = #[.cell p ty]) (tmps : Array Value) (hp : tmps.getD p undef = .pointer (some ⟨b, 0, none⟩)) (hg : Gm w b g) (hu : P.underlying ty = some (.array 32 e)) (hi : (P.info? ty).map (·.size) = some 32) :
    (results fn tmps).run P w = .ok (.agg (gcs g)) w := by
  have hp' : tmps[p]?.getD undef = .pointer (some ⟨b, 0, none⟩) := by simpa using hp
  simp [results, h, hp', asAddr, gm_load hu hi hg]

/-- Games are compared number by number. -/
theorem all_range_int : ∀ (xs ys : List Int), xs.length = ys.length → ((List.range xs.length).all fun i => xs.getD i 0 == ys.getD i 0) = (xs == ys)
  | [], [], _ => rfl
  | x :: xs, y :: ys, h => by
    have ih := all_range_int xs ys (by simpa using h)
    rw [List.length_cons, List.range_succ_eq_map, List.all_cons, List.all_map]
    simp only [List.getD_cons_zero, Function.comp_def, List.getD_cons_succ, ih]
    simp [List.cons_beq_cons]
  | [], _ :: _, h => by simp at h
  | _ :: _, [], h => by simp at h
theorem run_eq_games (w : World) (d : Nat) (t e : TypeId) (n : Nat) (ht : P.underlying t = some (.array n e)) (he : P.underlying e = some (.int .i32)) (hsz : ∀ w, (sizeOf e).run P w = .ok 1 w)
    (xs ys : List Int) (hx : xs.length = n) (hy : ys.length = n) :
    (Op.equalIn (d + 2) t (.agg (gcs xs)) (.agg (gcs ys))).run P w = .ok (xs == ys) w := by
  unfold gcs
  rw [← all_range_int xs ys (hx.trans hy.symm), hx, List.range_eq_range', Op.equalIn]
  simp only [Sem.run_bind, run_underlying ht, Result.andThen_ok, hsz, Std.Legacy.Range.forIn_eq_forIn_range', Std.Legacy.Range.size, Nat.sub_zero, Nat.add_sub_cancel, Nat.div_one]
  have hl : ∀ i ∈ List.range' 0 n 1, i < n := fun i hi => by simpa using (List.mem_range'_1.1 hi).2
  generalize List.range' 0 n 1 = l at hl ⊢
  induction l with
  | nil => simp
  | cons i l ih =>
    have hi : i < n := hl i (by simp)
    have px : (part e (xs.map (Value.int .i32)).toArray (i * 1)).run P w = .ok (.int .i32 (xs.getD i 0)) w := by
      simp [part, isAgg, run_underlying he, List.getD, List.getElem?_eq_getElem (show i < xs.length by omega)]
    have py : (part e (ys.map (Value.int .i32)).toArray (i * 1)).run P w = .ok (.int .i32 (ys.getD i 0)) w := by
      simp [part, isAgg, run_underlying he, List.getD, List.getElem?_eq_getElem (show i < ys.length by omega)]
    have pe : (Op.equalIn (d + 1) e (.int .i32 (xs.getD i 0)) (.int .i32 (ys.getD i 0))).run P w = .ok (xs.getD i 0 == ys.getD i 0) w := by
      rw [run_equalIn_int w d e .i32 .i32 _ _ he]
    simp only [List.forIn_cons, Sem.run_bind, px, py, pe, Result.andThen_ok, List.all_cons]
    cases hb : (xs.getD i 0 == ys.getD i 0)
    · simp
    · simp only [Bool.not_true, Bool.false_eq_true, if_false, Sem.run_pure, Result.andThen_ok, Bool.true_and]
      exact ih fun j hj => hl j (by simp [hj])
end
theorem foldSet_at : ∀ (xs : List Value) (k : Nat) (z : Array Value) (j : Nat), k + xs.length ≤ z.size → ((xs.zipIdx k).foldl (fun cs (x : Value × Nat) => cs.setIfInBounds x.2 x.1) z)[j]? = if k ≤ j ∧ j < k + xs.length then xs[j - k]? else z[j]?
  | [], k, z, j, _ => by rw [if_neg (by simp only [List.length_nil]; omega)]; rfl
  | x :: xs, k, z, j, h => by
    rw [List.zipIdx_cons, List.foldl_cons, foldSet_at xs (k + 1) _ j (by simp at h ⊢; omega)]
    simp only [List.length_cons] at h ⊢
    by_cases h1 : k + 1 ≤ j ∧ j < k + 1 + xs.length
    · rw [if_pos h1, if_pos (by omega), show j - k = (j - (k + 1)) + 1 by omega, List.getElem?_cons_succ]
    · rw [if_neg h1, Array.getElem?_setIfInBounds]
      by_cases h2 : k = j
      · subst h2
        rw [if_pos rfl, if_pos (by omega), if_pos (by omega), Nat.sub_self]; rfl
      · rw [if_neg h2, if_neg (by omega)]
/-- What 'build' lays for a struct whose first field is a game. -/
theorem foldSet (g : List Int) (hg : g.length = 32) (z : Array Value) (hz : 32 ≤ z.size) :
    Array.foldl (fun (cs : Array Value) (x : Value × Nat) => cs.setIfInBounds x.snd x.fst) z (gcs g).zipIdx 0 32 = gcs g ++ (z.toList.drop 32).toArray := by
  have e : (gcs g).zipIdx.size = 32 := by simp [gcs, hg]
  have hf : Array.foldl (fun (cs : Array Value) (x : Value × Nat) => cs.setIfInBounds x.snd x.fst) z (gcs g).zipIdx 0 32 = Array.foldl (fun (cs : Array Value) (x : Value × Nat) => cs.setIfInBounds x.snd x.fst) z (gcs g).zipIdx := by rw [e]
  rw [hf, ← Array.foldl_toList]
  apply Array.ext_getElem?
  intro j
  have e2 : (gcs g).zipIdx.toList = (g.map (Value.int .i32)).zipIdx 0 := by simp [gcs]
  rw [e2, foldSet_at _ _ _ _ (by simp [hg]; exact hz), Array.getElem?_append]
  simp only [gcs_size, hg, List.length_map]
  by_cases h : j < 32
  · rw [if_pos (by omega), if_pos h]; simp [gcs]
  · rw [if_neg (by omega), if_neg h, ← Array.getElem?_toList, ← Array.getElem?_toList, List.getElem?_drop, show 32 + (j - 32) = j by omega]
theorem size_state : (Try.prog.info? 31).map (·.size) = some 32 := by kernel_rfl
theorem size_game : (Try.prog.info? 33).map (·.size) = some 32 := by kernel_rfl
end Go.Proofs.Ytihegdjdgklbgaa
