/- Words for a program that a law builds: its box, its operations in memory of the call's own; one more operation. -/
import Derived.Test.YtbmgiidecidojaaDoorChkL
namespace Go.Proofs.YtbmgiidecidojaaDoor
open Go.RowKit

/-- A program's box: two cells that may be written. -/
def PBox (w : World) (g : Nat) (t : List UInt8) (A : Option Addr) (n c : Nat) : Prop :=
  w.cell? ⟨g, 0, none⟩ = some (.string (bs t)) ∧ w.cell? ⟨g, 1, none⟩ = some (.slice A n c) ∧ w.frozen? ⟨g, 0, none⟩ = false ∧ w.frozen? ⟨g, 1, none⟩ = false
section
variable {w w' : World} {g : Nat} {t : List UInt8} {A : Option Addr} {n c : Nat}
theorem PBox.lt (h : PBox w g t A n c) : g < w.heap.size := World.block_lt_of_cell? w _ h.1
theorem PBox.new (w : World) (T : TypeId) (t : List UInt8) (A : Option Addr) (n c : Nat) {g : Nat} (hg : g = w.heap.size) : PBox (w.alloc (.cells #[.string (bs t), .slice A n c] T)) g t A n c := by
  subst hg
  refine ⟨?_, ?_, ?_, ?_⟩ <;> go_simp
theorem PBox.ext (h : PBox w g t A n c) (e : Ext w w') : PBox w' g t A n c :=
  ⟨e.cell h.1, e.cell h.2.1, by rw [e.frozen h.lt]; exact h.2.2.1, by rw [e.frozen h.lt]; exact h.2.2.2⟩
theorem PBox.keep {B : Nat} (h : PBox w g t A n c) (e : Below B w w') (hB : g < B) : PBox w' g t A n c :=
  ⟨(e.cell (p := ⟨g, 0, none⟩) hB).trans h.1, (e.cell (p := ⟨g, 1, none⟩) hB).trans h.2.1, (e.frozen (p := ⟨g, 0, none⟩) hB).trans h.2.2.1, (e.frozen (p := ⟨g, 1, none⟩) hB).trans h.2.2.2⟩
theorem PBox.set_ (h : PBox w g t A n c) (A' : Option Addr) (n' c' : Nat) : PBox (w.setCell ⟨g, 1, none⟩ (.slice A' n' c')) g t A' n' c' := by
  obtain ⟨h0, h1, h2, h3⟩ := h
  refine ⟨?_, ?_, ?_, ?_⟩ <;> go_simp
theorem PBox.setT (h : PBox w g t A n c) (t' : List UInt8) : PBox (w.setCell ⟨g, 0, none⟩ (.string (bs t'))) g t' A n c := by
  obtain ⟨h0, h1, h2, h3⟩ := h
  refine ⟨?_, ?_, ?_, ?_⟩ <;> go_simp
end
theorem grownSet (w : World) {g : Nat} (a : Addr) (ha : a.block = g) (u : Value) : w.grownBy (w.setCell a u) (some g) :=
  ⟨rfl, rfl, rfl, by simp [World.setCell], fun k _ hk => Below.heap_setCell w a u k (by rintro rfl; exact hk (by rw [ha]))⟩
theorem info_op : (Tryd.prog.info? 39).map (fun i => (i.zero, i.size, i.bytes)) = some (some (.agg #[.int .i64 0, .int .i64 0, .int .i64 0, .int .i64 0]), 4, 32) := by kernel_rfl

theorem PBox.grown {w w' : World} {g : Nat} {t : List UInt8} {A : Option Addr} {n c : Nat} (h : PBox w g t A n c) {row : Option Nat} (hg : w.grownBy w' row) (hne : row ≠ some g) : PBox w' g t A n c := by
  have hb := hg.block g h.lt (fun e => hne e.symm)
  have hf : ∀ o, w'.frozen? ⟨g, o, none⟩ = w.frozen? ⟨g, o, none⟩ := fun o => by simp [World.frozen?, hb]
  exact ⟨(World.cell?_of_block (a := ⟨g, 0, none⟩) hb).trans h.1, (World.cell?_of_block (a := ⟨g, 1, none⟩) hb).trans h.2.1, (hf 0).trans h.2.2.1, (hf 1).trans h.2.2.2⟩
/-- A program that grows. -/
def Grow (w : World) (b0 g : Nat) (t : List UInt8) (B : Option Addr) (n d : Nat) (l : List OpT) : Prop := PBox w g t B n d ∧ Own w b0 39 4 B n d (opcs l) ∧ blk B ≠ some g ∧ b0 ≤ g
section
variable {w w' wr : World} {b0 g : Nat} {t : List UInt8} {B B' : Option Addr} {n d d' : Nat} {l : List OpT}
theorem Grow.ext (h : Grow w b0 g t B n d l) (e : Ext w w') : Grow w' b0 g t B n d l := ⟨h.1.ext e, h.2.1.ext e, h.2.2⟩
theorem Grow.ro (h : Grow w b0 g t B n d l) : Ro w B n d l := h.2.1.rd
theorem Grow.len (h : Grow w b0 g t B n d l) : n = l.length := h.ro.len
theorem Grow.lt (h : Grow w b0 g t B n d l) : b0 ≤ w.heap.size := by have := h.1.lt; have := h.2.2.2; omega
theorem Grow.start (w : World) (T : TypeId) (t : List UInt8) {g : Nat} (hg : g = w.heap.size) : Grow (w.alloc (.cells #[.string (bs t), .slice none 0 0] T)) g g t none 0 0 [] := ⟨PBox.new w T t none 0 0 hg, Own.nil_ _ _ _ _, by simp [blk], Nat.le_refl _⟩
/-- Behind an append the box is as it was. -/
theorem Grow.mid (h : Grow wr b0 g t B n d l) (hg : wr.grownBy w' (blk B)) : PBox w' g t B n d := h.1.grown hg h.2.2.1
theorem Grow.push (h : Grow wr b0 g t B n d l) {o : OpT} {m : Nat} (hg : wr.grownBy w' (blk B)) (ho : Own w' b0 39 4 B' m d' (opcs l ++ ocs o)) (hw : blk B' = blk B ∨ ∀ k, blk B' = some k → wr.heap.size ≤ k) : Grow (w'.setCell ⟨g, 1, none⟩ (.slice B' m d')) b0 g t B' m d' (l ++ [o]) := by
  have hne : blk B' ≠ some g := by
    intro e
    rcases hw with hw | hw
    · exact h.2.2.1 (hw.symm.trans e)
    · have := hw g e; have := h.1.lt; omega
  refine ⟨(h.mid hg).set_ B' m d', ?_, hne, h.2.2.2⟩
  rw [opcs_append, opcs_cons, opcs_nil, List.append_nil]
  exact ho.kept (grownSet w' ⟨g, 1, none⟩ rfl _) (.inr hne)
theorem Grow.out {W0 : World} (h : Grow wr b0 g t B n d l) (hW : W0.heap.size ≤ b0) (e : Ext W0 wr) (hg : wr.grownBy w' (blk B)) (u : Value) : Ext W0 (w'.setCell ⟨g, 1, none⟩ u) :=
  (Ext.own e hg fun k hk => Nat.le_trans hW (h.2.1.blk_ge k hk)).setCell (Nat.le_trans hW h.2.2.2) u
end

/-- 'append(s, x, ..)' where the elements have just been laid into block g0. -/
theorem wpList_append_at {P : Program} (w : World) {ops : Array Oper} {rest : List Oper} {o : Oper} {a : Act} {Q : Exit → Act → World → Prop} (hgd : o.guard = none) (s x : Operand) (t : TypeId)
    (ho : o.op = .call { callee := .builtin .append, args := #[s, x], argTypes := #[t, t] })
    (base : Nat) (e : TypeId) (i : TypeInfo) (z : Value) (size bytes : Nat) (ht : P.underlying t = some (.slice e)) (hi : P.info? e = some i) (hz : i.zero = some z)
    (hsize : i.size = size) (hby : i.bytes = bytes) (hzs : z.cells.size = size) (hsz : 0 < size)
    (A : Option Addr) (n c : Nat) (xs : List Value) (hs : a.eval s = .slice A n c) (hown : Own w base e size A n c xs)
    (m : Nat) (cs : List Value) (g0 : Nat) (hg0 : g0 = w.heap.size) (hx : a.eval x = .slice (some ⟨g0, 0, none⟩) m m) (hl : cs.length = m * size) (h1 : ∀ u ∈ cs, u.oneCell' = true)
    (h63 : n + m ≤ maxLen) (hbytes : (n + m) * bytes ≤ 140737488355328) (hbase : base ≤ w.heap.size)
    (h : ∀ B d w', Own w' base e size B (n + m) d (xs ++ cs) → w.grownBy w' (blk A) → (blk B = blk A ∨ ∀ k, blk B = some k → w.heap.size ≤ k) → wpList P ops Q rest (a.put o.dst (.slice B (n + m) d)) w') :
    wpList P ops Q (o :: rest) a (w.alloc (.cells cs.toArray e)) := by
  subst hg0
  exact wpList_append_new w hgd s x t ho base e i z size bytes ht hi hz hsize hby hzs hsz A n c xs hs hown m cs hx hl h1 h63 hbytes hbase h

/-- 'append([]T(nil), x...)' as one operation. -/
theorem exec_append_nil {P : Program} (w : World) {o : Oper} {a : Act} (s x : Operand) (t : TypeId)
    (ho : o.op = .call { callee := .builtin .append, args := #[s, x], argTypes := #[t, t] })
    (base : Nat) (e : TypeId) (i : TypeInfo) (z : Value) (size bytes : Nat) (ht : P.underlying t = some (.slice e)) (hi : P.info? e = some i) (hz : i.zero = some z)
    (hsize : i.size = size) (hby : i.bytes = bytes) (hzs : z.cells.size = size) (hsz : 0 < size) (hs : a.eval s = .slice none 0 0)
    (A' : Option Addr) (m c' : Nat) (news : List Value) (hx : a.eval x = .slice A' m c') (hr : Rd w size A' m c' news) (h1 : ∀ u ∈ news, u.oneCell' = true)
    (h63 : m ≤ maxLen) (hbytes : m * bytes ≤ 140737488355328) (hbase : base ≤ w.heap.size) :
    ∃ u w', (execOp a.eval o).run P w = .ok (.value u) w' ∧ Ext w w' ∧ ∃ B d, u = .slice B m d ∧ Own w' base e size B m d news := by
  obtain ⟨B, d, w', hr2, h2, h3, _⟩ := run_append_to (P := P) w base t o.type e i z size bytes ht hi hz hsize hby hzs hsz none 0 0 [] (Own.nil_ _ _ _ _) A' m c' news hr h1 (by omega) (by rw [Nat.zero_add]; exact hbytes) hbase
  rw [Nat.zero_add] at h2 hr2
  rw [List.nil_append] at h2
  refine ⟨.slice B m d, w', ?_, ext_of_grown h3, B, d, rfl, h2⟩
  unfold execOp
  simp only [ho, resolve, invoke, builtin, Sem.run_bind, Sem.run_pure, Result.andThen_ok, List.map_toArray, List.map_cons, List.map_nil, hs, hx, hr2]
/-- An operation's box: four cells that may be written. -/
def FBox (w : World) (g : Nat) (x a b c : Int) : Prop :=
  (w.cell? ⟨g, 0, none⟩ = some (.int .i64 x) ∧ w.cell? ⟨g, 1, none⟩ = some (.int .i64 a) ∧ w.cell? ⟨g, 2, none⟩ = some (.int .i64 b) ∧ w.cell? ⟨g, 3, none⟩ = some (.int .i64 c)) ∧
  w.frozen? ⟨g, 0, none⟩ = false ∧ w.frozen? ⟨g, 1, none⟩ = false ∧ w.frozen? ⟨g, 2, none⟩ = false ∧ w.frozen? ⟨g, 3, none⟩ = false
section
variable {w w' : World} {g : Nat} {x a b c : Int}
theorem FBox.lt (h : FBox w g x a b c) : g < w.heap.size := World.block_lt_of_cell? w _ h.1.1
theorem FBox.new (w : World) (T : TypeId) (x a b c : Int) {g : Nat} (hg : g = w.heap.size) : FBox (w.alloc (.cells #[.int .i64 x, .int .i64 a, .int .i64 b, .int .i64 c] T)) g x a b c := by
  subst hg
  refine ⟨⟨?_, ?_, ?_, ?_⟩, ?_, ?_, ?_, ?_⟩ <;> go_simp
theorem FBox.grown (h : FBox w g x a b c) {row : Option Nat} (hg : w.grownBy w' row) (hne : row ≠ some g) : FBox w' g x a b c := by
  have hb := hg.block g h.lt (fun e => hne e.symm)
  have hf : ∀ o, w'.frozen? ⟨g, o, none⟩ = w.frozen? ⟨g, o, none⟩ := fun o => by simp [World.frozen?, hb]
  have hc : ∀ o, w'.cell? ⟨g, o, none⟩ = w.cell? ⟨g, o, none⟩ := fun o => World.cell?_of_block (a := ⟨g, o, none⟩) hb
  exact ⟨⟨(hc 0).trans h.1.1, (hc 1).trans h.1.2.1, (hc 2).trans h.1.2.2.1, (hc 3).trans h.1.2.2.2⟩, (hf 0).trans h.2.1, (hf 1).trans h.2.2.1, (hf 2).trans h.2.2.2.1, (hf 3).trans h.2.2.2.2⟩
theorem FBox.ext (h : FBox w g x a b c) (e : Ext w w') : FBox w' g x a b c := h.grown (e.grownBy none) (by simp)
theorem FBox.set1 (h : FBox w g x a b c) (u : Int) : FBox (w.setCell ⟨g, 1, none⟩ (.int .i64 u)) g x u b c := by
  obtain ⟨⟨h0, h1, h2, h3⟩, f0, f1, f2, f3⟩ := h
  refine ⟨⟨?_, ?_, ?_, ?_⟩, ?_, ?_, ?_, ?_⟩ <;> go_simp
theorem FBox.set2 (h : FBox w g x a b c) (u : Int) : FBox (w.setCell ⟨g, 2, none⟩ (.int .i64 u)) g x a u c := by
  obtain ⟨⟨h0, h1, h2, h3⟩, f0, f1, f2, f3⟩ := h
  refine ⟨⟨?_, ?_, ?_, ?_⟩, ?_, ?_, ?_, ?_⟩ <;> go_simp
theorem FBox.set3 (h : FBox w g x a b c) (u : Int) : FBox (w.setCell ⟨g, 3, none⟩ (.int .i64 u)) g x a b u := by
  obtain ⟨⟨h0, h1, h2, h3⟩, f0, f1, f2, f3⟩ := h
  refine ⟨⟨?_, ?_, ?_, ?_⟩, ?_, ?_, ?_, ?_⟩ <;> go_simp
end
/-- A row of another block leaves a program that grows as it is. -/
theorem Grow.grown {w w' : World} {b0 g : Nat} {t : List UInt8} {B : Option Addr} {n d : Nat} {l : List OpT} (h : Grow w b0 g t B n d l) {row : Option Nat} (hg : w.grownBy w' row) (hne : row ≠ some g) (hB : blk B ≠ row ∨ blk B = none) : Grow w' b0 g t B n d l :=
  ⟨h.1.grown hg hne, h.2.1.kept hg hB.symm, h.2.2⟩
theorem some_ne {a b : Nat} (h : a ≠ b) : (some a : Option Nat) ≠ some b := fun e => h (Option.some.inj e)

end Go.Proofs.YtbmgiidecidojaaDoor
