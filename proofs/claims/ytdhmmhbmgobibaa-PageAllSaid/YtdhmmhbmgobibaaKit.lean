/- Words for memory, shared by all proofs of this seat: a slice that reads as a list of cells ('Rd'), worlds that only grew ('Ext'), a slice of the call's own ('Own'), append onto it from any source. No program in sight. -/
import Derived.WalkKit
import Derived.WalkSpells
import Derived.WalkLawsBesides
import Derived.Maps.AppendAt
import Derived.Lib.Hide
import Derived.Handy
import Derived.Laws.BytesString
import Derived.Lib.AppendStr
namespace Go.Proofs.Ytdhmmhbmgobibaa
open Go.RowKit

/-! ### Worlds that only grew -/
/-- All blocks that were there are as they were; there may be new ones. -/
def Ext (w w' : World) : Prop := Below w.heap.size w w'
theorem Ext.refl (w : World) : Ext w w := Below.refl _ _
theorem Ext.trans {a b c : World} (h : Ext a b) (k : Ext b c) : Ext a c := Below.trans h (Below.mono k h.size)
theorem Ext.of {w w' : World} (h : Below w.heap.size w w') : Ext w w' := h
theorem Ext.drew (w : World) : Ext w w.drew := (Below.refl _ _).drew
theorem Ext.alloc (w : World) (o : Obj) : Ext w (w.alloc o) := (Below.refl _ _).alloc (Nat.le_refl _) o
theorem Ext.cell {w w' : World} (h : Ext w w') {p : Addr} {v : Value} (hc : w.cell? p = some v) : w'.cell? p = some v :=
  (Below.cell h (World.block_lt_of_cell? w p hc)).trans hc
theorem Ext.below {B : Nat} {a b c : World} (h : Below B a b) (k : Ext b c) (hB : B ≤ b.heap.size) : Below B a c := h.trans (Below.mono k hB)
theorem Ext.grownBy {w w' : World} (h : Ext w w') (row : Option Nat) : w.grownBy w' row := ⟨h.os, h.tape, h.output, h.size, fun k hk _ => h.block k hk⟩
theorem ext_of_grown {w w' : World} (h : w.grownBy w' none) : Ext w w' := ⟨h.os, h.tape, h.output, h.size, fun k hk => h.block k hk (by simp)⟩
theorem below_of_grown {B : Nat} {w w' : World} {row : Option Nat} (hg : w.grownBy w' row) (hB : B ≤ w.heap.size) (hr : ∀ k, row = some k → B ≤ k) : Below B w w' := (Below.refl B w).grown hg hB hr
theorem grown_trans {a b c : World} {row : Option Nat} (h : a.grownBy b row) (k : b.grownBy c row) : a.grownBy c row :=
  ⟨k.os.trans h.os, k.tape.trans h.tape, k.output.trans h.output, Nat.le_trans h.size k.size, fun i hi hn => (k.block i (Nat.lt_of_lt_of_le hi h.size) hn).trans (h.block i hi hn)⟩

/-! ### A slice that reads as a list of cells; nil let in -/
def Rd (w : World) (size : Nat) (A : Option Addr) (n c : Nat) (xs : List Value) : Prop :=
  xs.length = n * size ∧ n ≤ c ∧ c ≤ maxLen ∧ (0 < n * size → ∃ b o, A = some ⟨b, o, none⟩ ∧ ∀ j u, xs[j]? = some u → w.cell? ⟨b, o + j, none⟩ = some u)

theorem Rd.nil_ (w : World) (size : Nat) : Rd w size none 0 0 [] := ⟨by simp, Nat.le_refl _, Nat.zero_le _, fun h => by simp at h⟩
theorem Rd.ext {w w' : World} {size : Nat} {A : Option Addr} {n c : Nat} {xs : List Value} (h : Rd w size A n c xs) (he : Ext w w') : Rd w' size A n c xs := by
  refine ⟨h.1, h.2.1, h.2.2.1, fun hn => ?_⟩
  obtain ⟨b, o, e, hc⟩ := h.2.2.2 hn
  exact ⟨b, o, e, fun j u hu => he.cell (hc j u hu)⟩
/-- Where all that is read lies below block B, whatever turned from B on. -/
theorem Rd.keep {w w' : World} {size : Nat} {A : Option Addr} {n c : Nat} {xs : List Value} (h : Rd w size A n c xs) (hk : ∀ p : Addr, ∀ v, A.map (·.block) = some p.block → w.cell? p = some v → w'.cell? p = some v) : Rd w' size A n c xs := by
  refine ⟨h.1, h.2.1, h.2.2.1, fun hn => ?_⟩
  obtain ⟨b, o, e, hc⟩ := h.2.2.2 hn
  exact ⟨b, o, e, fun j u hu => hk _ _ (by rw [e]; rfl) (hc j u hu)⟩
theorem Rd.grown {w w' : World} {size : Nat} {A : Option Addr} {n c : Nat} {xs : List Value} (h : Rd w size A n c xs) {row : Option Nat} (hg : w.grownBy w' row) (hne : ∀ a, A = some a → row ≠ some a.block) : Rd w' size A n c xs := by
  refine h.keep fun p v hp hc => hg.cell hc ?_
  obtain ⟨a, ha, hb⟩ := Option.map_eq_some_iff.1 hp
  rw [← hb]
  exact fun e => hne a ha e.symm
theorem Rd.below {w w' : World} {size : Nat} {A : Option Addr} {n c : Nat} {xs : List Value} {B : Nat} (h : Rd w size A n c xs) (hb : Below B w w') (hA : ∀ a, A = some a → a.block < B) : Rd w' size A n c xs := by
  refine h.keep fun p v hp hc => ?_
  obtain ⟨a, ha, hpb⟩ := Option.map_eq_some_iff.1 hp
  rw [hb.cell (by rw [← hpb]; exact hA a ha)]
  exact hc
theorem Rd.lt {w : World} {size : Nat} {A : Option Addr} {n c : Nat} {xs : List Value} (h : Rd w size A n c xs) (hn : 0 < n * size) : ∀ a, A = some a → a.block < w.heap.size := by
  intro a ha
  obtain ⟨b, o, e, hc⟩ := h.2.2.2 hn
  obtain rfl : a = ⟨b, o, none⟩ := by rw [e] at ha; exact (Option.some.inj ha).symm
  have h0 : 0 < xs.length := by rw [h.1]; exact hn
  exact World.block_lt_of_cell? w _ (hc 0 _ (List.getElem?_eq_getElem h0))
/-- The first k elements: 's[:k]'. -/
theorem Rd.take {w : World} {size : Nat} {A : Option Addr} {n c : Nat} {xs : List Value} (h : Rd w size A n c xs) {k : Nat} (hk : k ≤ n) : Rd w size A k c (xs.take (k * size)) := by
  have hle : k * size ≤ n * size := Nat.mul_le_mul_right _ hk
  refine ⟨by rw [List.length_take, h.1]; omega, Nat.le_trans hk h.2.1, h.2.2.1, fun hn => ?_⟩
  obtain ⟨b, o, e, hc⟩ := h.2.2.2 (by omega)
  refine ⟨b, o, e, fun j u hu => hc j u ?_⟩
  rw [List.getElem?_take] at hu
  split at hu
  · exact hu
  · cases hu
/-- From k on: 's[k:]', as the walk writes it. -/
theorem Rd.drop {w : World} {size : Nat} {A : Option Addr} {n c : Nat} {xs : List Value} (h : Rd w size A n c xs) {k : Nat} (hk : k ≤ n) :
    Rd w size (if c = k then A else A.map (·.add (k * size))) (n - k) (c - k) (xs.drop (k * size)) := by
  refine ⟨by rw [List.length_drop, h.1, Nat.sub_mul], by have := h.2.1; omega, by have := h.2.2.1; omega, fun hn => ?_⟩
  have hpos : 0 < n * size := Nat.lt_of_lt_of_le hn (Nat.mul_le_mul_right _ (Nat.sub_le _ _))
  obtain ⟨b, o, rfl, hc⟩ := h.2.2.2 hpos
  have hlt : k < n := by
    rcases Nat.lt_or_ge k n with h1 | h1
    · exact h1
    · rw [Nat.sub_eq_zero_of_le h1] at hn; simp at hn
  rw [if_neg (by have := h.2.1; omega)]
  refine ⟨b, o + k * size, ?_, fun j u hu => ?_⟩
  · simp only [Option.map_some, Addr.add_lit]
  · rw [Nat.add_assoc]
    exact hc _ u (by rw [← hu, List.getElem?_drop])
/-- One element's cell (elements of one cell). -/
theorem Rd.at_ {w : World} {A : Option Addr} {n c : Nat} {xs : List Value} (h : Rd w 1 A n c xs) {k : Nat} (hk : k < n) :
    ∃ b o, A = some ⟨b, o, none⟩ ∧ ∃ u, xs[k]? = some u ∧ w.cell? ⟨b, o + k, none⟩ = some u := by
  obtain ⟨b, o, e, hc⟩ := h.2.2.2 (by omega)
  have hl : k < xs.length := by have := h.1; omega
  exact ⟨b, o, e, xs[k], List.getElem?_eq_getElem hl, hc k _ (List.getElem?_eq_getElem hl)⟩

/-! ### A slice of the call's own -/
def Own (w : World) (base : Nat) (e : TypeId) (size : Nat) (A : Option Addr) (n c : Nat) (xs : List Value) : Prop := w.ownsRow base e size (.slice A n c) n xs
/-- The block that a slice of the call's own lies in. -/
def blk (A : Option Addr) : Option Nat := A.map (·.block)
theorem ownBlock_slice (A : Option Addr) (n c : Nat) : (Value.slice A n c).ownBlock = blk A := by cases A <;> rfl
theorem Own.nil_ (w : World) (base : Nat) (e : TypeId) (size : Nat) : Own w base e size none 0 0 [] := World.ownsRow_nil w base e size
theorem Own.of_row {w : World} {base : Nat} {e : TypeId} {size : Nat} {v : Value} {n : Nat} {xs : List Value} (h : w.ownsRow base e size v n xs) :
    ∃ A c, v = .slice A n c ∧ Own w base e size A n c xs := by
  rcases h.2 with ⟨rfl, rfl⟩ | ⟨g, cap, cur, rfl, _⟩
  · exact ⟨none, 0, rfl, h⟩
  · exact ⟨_, cap, rfl, h⟩
theorem Own.rd {w : World} {base : Nat} {e : TypeId} {size : Nat} {A : Option Addr} {n c : Nat} {xs : List Value} (h : Own w base e size A n c xs) : Rd w size A n c xs := by
  rcases h.2 with ⟨hv, rfl⟩ | ⟨g, cap, cur, hv, hbg, hg, hnc, hcm, hcs, htake⟩
  · injection hv with h1 h2 h3
    subst h1; subst h3
    have : xs = [] := List.eq_nil_of_length_eq_zero (by simpa using h.1)
    subst this
    exact Rd.nil_ w size
  · injection hv with h1 _ h3
    subst h1; subst h3
    refine ⟨h.1, hnc, hcm, fun _ => ⟨g, 0, rfl, fun j u hu => ?_⟩⟩
    have := World.ownsRow.cells h (g := g) rfl j u hu
    simpa [Addr.add_lit] using this
theorem Own.base_le {w : World} {base : Nat} {e : TypeId} {size : Nat} {A : Option Addr} {n c : Nat} {xs : List Value} (h : Own w base e size A n c xs) : ∀ a, A = some a → base ≤ a.block ∧ a.block < w.heap.size := by
  intro a ha
  subst ha
  exact World.ownsRow.lt h a.block rfl
theorem Own.blk_ge {w : World} {base : Nat} {e : TypeId} {size : Nat} {A : Option Addr} {n c : Nat} {xs : List Value} (h : Own w base e size A n c xs) : ∀ k, blk A = some k → base ≤ k := by
  intro k hk
  obtain ⟨a, ha, rfl⟩ := Option.map_eq_some_iff.1 hk
  exact (h.base_le a ha).1
theorem Own.kept {w w' : World} {base : Nat} {e : TypeId} {size : Nat} {A : Option Addr} {n c : Nat} {xs : List Value} (h : Own w base e size A n c xs) {row : Option Nat} (hg : w.grownBy w' row) (hne : blk A = none ∨ blk A ≠ row) : Own w' base e size A n c xs :=
  World.ownsRow.kept h hg (by rw [ownBlock_slice]; exact hne)
theorem Own.ext {w w' : World} {base : Nat} {e : TypeId} {size : Nat} {A : Option Addr} {n c : Nat} {xs : List Value} (h : Own w base e size A n c xs) (he : Ext w w') : Own w' base e size A n c xs :=
  h.kept (he.grownBy none) (by cases blk A <;> simp)
theorem Own.mono {w : World} {base base' : Nat} {e : TypeId} {size : Nat} {A : Option Addr} {n c : Nat} {xs : List Value} (h : Own w base e size A n c xs) (hb : base' ≤ base) : Own w base' e size A n c xs := by
  refine ⟨h.1, ?_⟩
  rcases h.2 with h2 | ⟨g, cap, cur, hv, hbg, rest⟩
  · exact .inl h2
  · exact .inr ⟨g, cap, cur, hv, Nat.le_trans hb hbg, rest⟩
theorem Own.len {w : World} {base : Nat} {e : TypeId} {size : Nat} {A : Option Addr} {n c : Nat} {xs : List Value} (h : Own w base e size A n c xs) : xs.length = n * size := h.1
/-- A block that a 'buildSlice' has just made, whole. -/
theorem Own.made (w : World) (base : Nat) (e : TypeId) (size : Nat) (cs : List Value) (n : Nat) (hb : base ≤ w.heap.size) (hm : n ≤ maxLen) (hs : cs.length = n * size) :
    Own (w.alloc (.cells cs.toArray e)) base e size (some ⟨w.heap.size, 0, none⟩) n n cs :=
  ⟨hs, .inr ⟨w.heap.size, n, cs.toArray, rfl, hb, heap_alloc_new w _, Nat.le_refl _, hm, by simpa using hs, by rw [← hs]; simp⟩⟩

/-! ### append onto a slice of the call's own, from whatever source -/
section
variable {P : Program} (w : World)
theorem run_append_to (base : Nat) (t ty e : TypeId) (i : TypeInfo) (z : Value) (size bytes : Nat) (ht : P.underlying t = some (.slice e)) (hi : P.info? e = some i) (hz : i.zero = some z)
    (hsize : i.size = size) (hby : i.bytes = bytes) (hzs : z.cells.size = size) (hsz : 0 < size)
    (A : Option Addr) (n c : Nat) (xs : List Value) (hown : Own w base e size A n c xs)
    (A' : Option Addr) (m c' : Nat) (news : List Value) (hr : Rd w size A' m c' news) (h1 : ∀ u ∈ news, u.oneCell' = true)
    (h63 : n + m ≤ maxLen) (hbytes : (n + m) * bytes ≤ 140737488355328) (hbase : base ≤ w.heap.size) :
    ∃ B d w', (Builtin.append_ #[t, t] ty #[.slice A n c, .slice A' m c']).run P w = .ok (.slice B (n + m) d) w' ∧ Own w' base e size B (n + m) d (xs ++ news) ∧ w.grownBy w' (blk A) ∧
      (blk B = blk A ∨ blk B = some w.heap.size) := by
  rcases Nat.eq_zero_or_pos m with h0 | h0
  · subst h0
    have hn : news = [] := List.eq_nil_of_length_eq_zero (by simpa using hr.1)
    subst hn
    refine ⟨A, c, w, ?_, by simpa using hown, World.grownBy.refl w _, .inl rfl⟩
    rcases hown.2 with ⟨hv, rfl⟩ | ⟨g, cap, cur, hv, _, hg, hnc, _⟩
    · injection hv with h1 h2 h3
      subst h1; subst h3
      cases A' <;> simp [Builtin.append_, run_underlying ht, sizeOf, typeInfo, hi, Builtin.lenOf, Builtin.firstCells, loadCells, loadCellsFrom]
    · injection hv with h1 h2 h3
      subst h1; subst h3
      cases A' <;> simp [Builtin.append_, run_underlying ht, sizeOf, typeInfo, hi, Builtin.lenOf, Builtin.firstCells, hnc, storeCells, loadCells, loadCellsFrom]
  · obtain ⟨b, o, rfl, hcells⟩ := hr.2.2.2 (Nat.mul_pos h0 hsz)
    obtain ⟨v', w', hrun, h2, h3, _, h5⟩ := run_append_own_at (P := P) w base t ty e i z size bytes ht hi hz hsize hby hzs hsz (.slice A n c) n xs hown ⟨b, o, none⟩ m c' news hr.1
      (fun j u hu => by rw [Addr.add_lit]; exact hcells j u hu) h1 h63 hbytes hbase
    obtain ⟨B, d, rfl, h6⟩ := Own.of_row h2
    refine ⟨B, d, w', hrun, h6, by rw [ownBlock_slice] at h3; exact h3, by simpa [ownBlock_slice] using h5⟩

theorem wpList_append_to {ops : Array Oper} {rest : List Oper} {o : Oper} {a : Act} {Q : Exit → Act → World → Prop} (hgd : o.guard = none) (s x : Operand) (t : TypeId)
    (ho : o.op = .call { callee := .builtin .append, args := #[s, x], argTypes := #[t, t] })
    (base : Nat) (e : TypeId) (i : TypeInfo) (z : Value) (size bytes : Nat) (ht : P.underlying t = some (.slice e)) (hi : P.info? e = some i) (hz : i.zero = some z)
    (hsize : i.size = size) (hby : i.bytes = bytes) (hzs : z.cells.size = size) (hsz : 0 < size)
    (A : Option Addr) (n c : Nat) (xs : List Value) (hs : a.eval s = .slice A n c) (hown : Own w base e size A n c xs)
    (A' : Option Addr) (m c' : Nat) (news : List Value) (hx : a.eval x = .slice A' m c') (hr : Rd w size A' m c' news) (h1 : ∀ u ∈ news, u.oneCell' = true)
    (h63 : n + m ≤ maxLen) (hbytes : (n + m) * bytes ≤ 140737488355328) (hbase : base ≤ w.heap.size)
    (h : ∀ B d w', Own w' base e size B (n + m) d (xs ++ news) → w.grownBy w' (blk A) → (blk B = blk A ∨ blk B = some w.heap.size) → wpList P ops Q rest (a.put o.dst (.slice B (n + m) d)) w') :
    wpList P ops Q (o :: rest) a w := by
  refine wpList_plain hgd fun K hK => ?_
  obtain ⟨B, d, w', hr, h2, h3, h5⟩ := run_append_to (P := P) w base t o.type e i z size bytes ht hi hz hsize hby hzs hsz A n c xs hown A' m c' news hr h1 h63 hbytes hbase
  unfold Oper.wp execOp
  simp only [ho, resolve, invoke, builtin, Sem.run_bind, Sem.run_pure, Result.andThen_ok, List.map_toArray, List.map_cons, List.map_nil, hs, hx, hr]
  exact hK _ _ (h B d w' h2 h3 h5)
/-- 'append([]T(nil), x...)': a copy of the call's own. -/
theorem wpList_append_nil {ops : Array Oper} {rest : List Oper} {o : Oper} {a : Act} {Q : Exit → Act → World → Prop} (hgd : o.guard = none) (s x : Operand) (t : TypeId)
    (ho : o.op = .call { callee := .builtin .append, args := #[s, x], argTypes := #[t, t] })
    (base : Nat) (e : TypeId) (i : TypeInfo) (z : Value) (size bytes : Nat) (ht : P.underlying t = some (.slice e)) (hi : P.info? e = some i) (hz : i.zero = some z)
    (hsize : i.size = size) (hby : i.bytes = bytes) (hzs : z.cells.size = size) (hsz : 0 < size) (hs : a.eval s = .slice none 0 0)
    (A' : Option Addr) (m c' : Nat) (news : List Value) (hx : a.eval x = .slice A' m c') (hr : Rd w size A' m c' news) (h1 : ∀ u ∈ news, u.oneCell' = true)
    (h63 : m ≤ maxLen) (hbytes : m * bytes ≤ 140737488355328) (hbase : base ≤ w.heap.size)
    (h : ∀ B d w', Own w' base e size B m d news → Ext w w' → wpList P ops Q rest (a.put o.dst (.slice B m d)) w') :
    wpList P ops Q (o :: rest) a w := by
  refine wpList_append_to w hgd s x t ho base e i z size bytes ht hi hz hsize hby hzs hsz none 0 0 [] hs (Own.nil_ _ _ _ _) A' m c' news hx hr h1 (by omega) (by rw [Nat.zero_add]; exact hbytes) hbase ?_
  intro B d w' h2 h3 _
  rw [Nat.zero_add] at h2 ⊢
  rw [List.nil_append] at h2
  exact h B d w' h2 (ext_of_grown h3)

/-- What a 'buildSlice' has just made reads as its elements. -/
theorem Rd.made (t : TypeId) (size : Nat) (cs : List Value) (n : Nat) (hs : cs.length = n * size) (hm : n ≤ maxLen) : Rd (w.alloc (.cells cs.toArray t)) size (some ⟨w.heap.size, 0, none⟩) n n cs :=
  ⟨hs, Nat.le_refl _, hm, fun _ => ⟨w.heap.size, 0, rfl, fun j u hu => by rw [cell_of_row _ _ _ _ _ _ (heap_alloc_new w _)]; simpa using hu⟩⟩

/-- 'append(s, x, ..)' where the elements have just been laid into a block of their own. -/
theorem wpList_append_new {ops : Array Oper} {rest : List Oper} {o : Oper} {a : Act} {Q : Exit → Act → World → Prop} (hgd : o.guard = none) (s x : Operand) (t : TypeId)
    (ho : o.op = .call { callee := .builtin .append, args := #[s, x], argTypes := #[t, t] })
    (base : Nat) (e : TypeId) (i : TypeInfo) (z : Value) (size bytes : Nat) (ht : P.underlying t = some (.slice e)) (hi : P.info? e = some i) (hz : i.zero = some z)
    (hsize : i.size = size) (hby : i.bytes = bytes) (hzs : z.cells.size = size) (hsz : 0 < size)
    (A : Option Addr) (n c : Nat) (xs : List Value) (hs : a.eval s = .slice A n c) (hown : Own w base e size A n c xs)
    (m : Nat) (cs : List Value) (hx : a.eval x = .slice (some ⟨w.heap.size, 0, none⟩) m m) (hl : cs.length = m * size) (h1 : ∀ u ∈ cs, u.oneCell' = true)
    (h63 : n + m ≤ maxLen) (hbytes : (n + m) * bytes ≤ 140737488355328) (hbase : base ≤ w.heap.size)
    (h : ∀ B d w', Own w' base e size B (n + m) d (xs ++ cs) → w.grownBy w' (blk A) → (blk B = blk A ∨ ∀ k, blk B = some k → w.heap.size ≤ k) → wpList P ops Q rest (a.put o.dst (.slice B (n + m) d)) w') :
    wpList P ops Q (o :: rest) a (w.alloc (.cells cs.toArray e)) := by
  refine wpList_append_to _ hgd s x t ho base e i z size bytes ht hi hz hsize hby hzs hsz A n c xs hs (hown.ext (Ext.alloc _ _)) _ m m cs hx (Rd.made w e size cs m hl (by omega)) h1 h63 hbytes (by simp; omega) ?_
  intro B d w' h2 h3 h4
  refine h B d w' h2 (grown_trans ((Ext.alloc w _).grownBy _) h3) ?_
  rcases h4 with h4 | h4
  · exact .inl h4
  · exact .inr fun k hk => by rw [h4] at hk; cases hk; simp
end

/-- Where a slice of the call's own went to: it stayed in its block, or lies in a new one. -/
def Went (w : World) (A B : Option Addr) : Prop := blk B = blk A ∨ ∀ k, blk B = some k → w.heap.size ≤ k
theorem Went.refl (w : World) (A : Option Addr) : Went w A A := .inl rfl
theorem Went.of {w : World} {A B : Option Addr} (h : blk B = blk A ∨ blk B = some w.heap.size) : Went w A B := by
  rcases h with h | h
  · exact .inl h
  · exact .inr fun k hk => by rw [h] at hk; cases hk; exact Nat.le_refl _
theorem Went.trans {w w' : World} {A B C : Option Addr} (h : Went w A B) (hs : w.heap.size ≤ w'.heap.size) (k : Went w' B C) : Went w A C := by
  rcases k with k | k
  · rcases h with h | h
    · exact .inl (k.trans h)
    · exact .inr fun i hi => h i (by rw [← k]; exact hi)
  · exact .inr fun i hi => Nat.le_trans hs (k i hi)
/-- One append behind the other. -/
theorem grown_went {a b c : World} {A B : Option Addr} (h : a.grownBy b (blk A)) (hw : Went a A B) (k : b.grownBy c (blk B)) : a.grownBy c (blk A) :=
  ⟨k.os.trans h.os, k.tape.trans h.tape, k.output.trans h.output, Nat.le_trans h.size k.size, fun i hi hn => (k.block i (Nat.lt_of_lt_of_le hi h.size) (by
    rcases hw with hw | hw
    · rw [hw]; exact hn
    · intro e; have := hw i e.symm; omega)).trans (h.block i hi hn)⟩
theorem grown_ext {a b c : World} {row : Option Nat} (h : a.grownBy b row) (k : Ext b c) : a.grownBy c row := grown_trans h (k.grownBy row)
theorem ext_grown {a b c : World} {row : Option Nat} (h : Ext a b) (k : b.grownBy c row) : a.grownBy c row := grown_trans (h.grownBy row) k

/-- A write into a row of the call's own. -/
theorem Ext.own {w a b : World} (h : Ext w a) {B : Option Addr} (hg : a.grownBy b (blk B)) (hB : ∀ k, blk B = some k → w.heap.size ≤ k) : Ext w b :=
  Below.trans h (below_of_grown hg h.size hB)

/-- What an appending function leaves: the cells xs in a slice of the call's own; nothing else has turned. -/
def Appended (w : World) (base : Nat) (e : TypeId) (size : Nat) (A : Option Addr) (xs : List Value) (r : Ending) (w' : World) : Prop :=
  ∃ B m d, r = .returned (.slice B m d) ∧ Own w' base e size B m d xs ∧ w.grownBy w' (blk A) ∧ Went w A B
/-- What a function leaves that hands back new memory: the cells xs; all that was there is as it was. -/
def Made (w : World) (e : TypeId) (size : Nat) (xs : List Value) (r : Ending) (w' : World) : Prop :=
  ∃ B m d, r = .returned (.slice B m d) ∧ Own w' w.heap.size e size B m d xs ∧ Ext w w'

/-! ### Bytes -/
/-- Bytes as cells. -/
def bcs (l : List UInt8) : List Value := l.map fun u => .int .u8 (u.toNat : Int)
/-- A text of these bytes. -/
def bs (l : List UInt8) : ByteArray := ⟨l.toArray⟩
theorem bcs_length (l : List UInt8) : (bcs l).length = l.length := by simp [bcs]
theorem bcs_nil : bcs [] = [] := rfl
theorem bcs_append (a b : List UInt8) : bcs (a ++ b) = bcs a ++ bcs b := by simp [bcs]
theorem bcs_take (l : List UInt8) (k : Nat) : (bcs l).take k = bcs (l.take k) := by simp [bcs, List.map_take]
theorem bcs_drop (l : List UInt8) (k : Nat) : (bcs l).drop k = bcs (l.drop k) := by simp [bcs, List.map_drop]
theorem bcs_one (l : List UInt8) : ∀ u ∈ bcs l, u.oneCell' = true := by
  intro u hu
  obtain ⟨_, _, rfl⟩ := List.mem_map.1 hu
  rfl
theorem bcs_get {l : List UInt8} {k : Nat} (hk : k < l.length) : (bcs l)[k]? = some (.int .u8 ((l[k]).toNat : Int)) := by simp [bcs, hk]
theorem bs_data (l : List UInt8) : (bs l).data.toList = l := rfl
@[go_sem] theorem bs_size (l : List UInt8) : (bs l).size = l.length := by simp [bs, ByteArray.size]
theorem bs_of (s : ByteArray) : bs s.data.toList = s := rfl
theorem bs_inj {a b : List UInt8} : bs a = bs b ↔ a = b := ⟨fun h => by have := congrArg (fun s : ByteArray => s.data.toList) h; simpa [bs] using this, fun h => by rw [h]⟩

@[go_sem] theorem bs_toList (l : List UInt8) : (bs l).toList = l := by rw [ByteArray.toList_eq]; rfl
@[go_sem] theorem bs_add (a b : List UInt8) : bs a ++ bs b = bs (a ++ b) := by
  have h : (bs a ++ bs b).data.toList = a ++ b := by simp [bs]
  rw [← bs_of (bs a ++ bs b), h]

/-- A slice of bytes. -/
def Rb (w : World) (A : Option Addr) (n c : Nat) (l : List UInt8) : Prop := Rd w 1 A n c (bcs l)
theorem Rb.len {w : World} {A : Option Addr} {n c : Nat} {l : List UInt8} (h : Rb w A n c l) : n = l.length := by have := h.1; rw [bcs_length] at this; omega
theorem Rb.ext {w w' : World} {A : Option Addr} {n c : Nat} {l : List UInt8} (h : Rb w A n c l) (he : Ext w w') : Rb w' A n c l := Rd.ext h he
theorem Rb.of {w : World} {A : Option Addr} {n c : Nat} {l : List UInt8} {xs : List Value} (h : Rd w 1 A n c xs) (e : xs = bcs l) : Rb w A n c l := by subst e; exact h
theorem Rb.nil_ (w : World) : Rb w none 0 0 [] := Rd.nil_ w 1
theorem Rb.take {w : World} {A : Option Addr} {n c : Nat} {l : List UInt8} (h : Rb w A n c l) {k : Nat} (hk : k ≤ n) : Rb w A k c (l.take k) := by
  have := Rd.take h hk
  rw [Nat.mul_one, bcs_take] at this
  exact this
theorem Rb.drop {w : World} {A : Option Addr} {n c : Nat} {l : List UInt8} (h : Rb w A n c l) {k : Nat} (hk : k ≤ n) : Rb w (if c = k then A else A.map (·.add k)) (n - k) (c - k) (l.drop k) := by
  have := Rd.drop h hk
  rw [Nat.mul_one, bcs_drop] at this
  exact this
/-- 's[k:]' under a name for its address: the equation is a rule for the walk. -/
theorem Rb.cut {w : World} {A : Option Addr} {n c : Nat} {l : List UInt8} (h : Rb w A n c l) {k : Nat} (hk : k ≤ n) : ∃ A', (if c = k then A else Option.map (fun x => x.add k) A) = A' ∧ Rb w A' (n - k) (c - k) (l.drop k) := ⟨_, rfl, h.drop hk⟩
theorem Rb.at_ {w : World} {A : Option Addr} {n c : Nat} {l : List UInt8} (h : Rb w A n c l) {k : Nat} (hk : k < l.length) :
    ∃ b o, A = some ⟨b, o, none⟩ ∧ w.cell? ⟨b, o + k, none⟩ = some (.int .u8 ((l[k]).toNat : Int)) := by
  obtain ⟨b, o, e, u, hu, hc⟩ := Rd.at_ h (k := k) (by have := h.len; omega)
  rw [bcs_get hk] at hu
  cases hu
  exact ⟨b, o, e, hc⟩
theorem Rb.max {w : World} {A : Option Addr} {n c : Nat} {l : List UInt8} (h : Rb w A n c l) : n ≤ c ∧ c ≤ maxLen := ⟨h.2.1, h.2.2.1⟩

/-- 'string(b)'. -/
theorem run_string_of {P : Program} (w : World) (src dst e : TypeId) (hs : P.underlying src = some (.slice e)) (he : P.underlying e = some (.int .u8)) (hd : P.underlying dst = some .string)
    (A : Option Addr) (n c : Nat) (l : List UInt8) (h : Rb w A n c l) : (convert src dst (.slice A n c)).run P w = .ok (.string (bs l)) w := by
  rw [run_convert_bytes_string w src dst e A n c hs he hd]
  cases A with
  | none =>
    have hl : l = [] := by
      rcases Nat.eq_zero_or_pos n with h0 | h0
      · exact List.eq_nil_of_length_eq_zero (by have := h.len; omega)
      · obtain ⟨b, o, e, _⟩ := h.2.2.2 (by omega)
        cases e
    subst hl
    simp [Conv.bytesToString]
    rfl
  | some a =>
    have hload : (loadCells a n).run P w = .ok ((l.map fun u => (u.toNat : Int)).map (Value.int .u8)).toArray w := by
      have hm : (l.map fun u : UInt8 => (u.toNat : Int)).map (Value.int .u8) = bcs l := by simp [bcs]
      rw [hm]
      rcases Nat.eq_zero_or_pos n with h0 | h0
      · subst h0
        obtain rfl : l = [] := List.eq_nil_of_length_eq_zero h.len.symm
        simpa [bcs] using run_loadCells_list (P := P) w a [] (fun j v hj => by simp at hj)
      · obtain ⟨b, o, e, hc⟩ := h.2.2.2 (by omega)
        injection e with e
        subst e
        have := run_loadCells_list (P := P) w ⟨b, o, none⟩ (bcs l) (fun j v hj => by rw [Addr.add_lit]; exact hc j v hj)
        rw [bcs_length, ← h.len] at this
        exact this
    rw [run_bytesToString w a n c _ hload]
    congr 2
    have : ∀ (ns : List UInt8) (s : ByteArray), (ns.map fun u => (u.toNat : Int)).foldl (fun r n => r.push (UInt8.ofNat n.toNat)) s = ⟨s.data ++ ns.toArray⟩ := by
      intro ns
      induction ns with
      | nil => intro s; simp
      | cons x ns ih => intro s; simp only [List.map_cons, List.foldl_cons]; rw [ih]; simp [ByteArray.push]
    rw [this]
    simp [bs, ByteArray.empty, ByteArray.emptyWithCapacity]
    rfl

/-- A law, or a part of it, that answers true and turned nothing that was there. -/
def Yes (w : World) (e : Ending) (w' : World) : Prop := e = .returned (.bool true) ∧ Ext w w'

/-! ### append of a text's bytes -/
theorem strCells_bs (l : List UInt8) : Lib.strCells (bs l) = bcs l := rfl
theorem run_append_text {P : Program} (w : World) (base : Nat) (t u ty e : TypeId) (i : TypeInfo) (ht : P.underlying t = some (.slice e)) (hu : P.underlying u = some .string) (hi : P.info? e = some i) (hz : i.zero = some (.int .u8 0))
    (hsize : i.size = 1) (hby : i.bytes = 1) (A : Option Addr) (n c : Nat) (xs : List Value) (hown : Own w base e 1 A n c xs) (l : List UInt8)
    (h63 : n + l.length ≤ maxLen) (hbytes : n + l.length ≤ 140737488355328) (hbase : base ≤ w.heap.size) :
    ∃ B d w', (Builtin.append_ #[t, u] ty #[.slice A n c, .string (bs l)]).run P w = .ok (.slice B (n + l.length) d) w' ∧ Own w' base e 1 B (n + l.length) d (xs ++ bcs l) ∧ w.grownBy w' (blk A) ∧ Went w A B := by
  have hsz := bs_size l
  obtain ⟨v', w', hr, h2, h3, _⟩ := Lib.run_append_own_string (P := P) w base t u ty e i ht hu hi hz hsize hby (.slice A n c) n xs hown (bs l) (by rw [hsz]; exact h63) (by rw [hsz]; exact hbytes) hbase
  rw [hsz] at h2
  obtain ⟨B, d, rfl, h6⟩ := Own.of_row h2
  refine ⟨B, d, w', hr, h6, by rw [ownBlock_slice] at h3; exact h3, ?_⟩
  have hsm : n + l.length ≤ 9223372036854775807 := by simp only [maxLen] at h63; omega
  rcases hown.2 with ⟨hv, rfl⟩ | ⟨g, cap, cur, hv, hbg, hg, hnc, hcm, hcs, htake⟩
  · injection hv with h7 _ h8
    subst h7; subst h8
    by_cases hm : l.length = 0
    · obtain rfl : l = [] := List.eq_nil_of_length_eq_zero hm
      have hf := Lib.run_firstCells_string (P := P) w 1 (bs [])
      have e0 : (bs []).size = 0 := rfl
      rw [e0] at hf
      simp [Builtin.append_, run_underlying ht, run_underlying hu, sizeOf, typeInfo, hi, hsize, Builtin.lenOf, e0, hf] at hr
      rw [← hr.1.1]
      exact Went.refl w none
    · have hr2 := run_append_nil_string (P := P) w t u ty e i (.int .u8 0) ht hu hi hz (bs l) (by omega) (by omega) (by rw [hby]; omega)
      rw [hr2] at hr
      injection hr with h9 _
      injection h9 with h9 _ _
      rw [← h9]
      exact .inr fun k hk => by cases hk; exact Nat.le_refl _
  · injection hv with h7 _ h8
    subst h7; subst h8
    by_cases hroom : n + l.length ≤ c
    · have hr2 := Lib.run_append_room_string (P := P) w t u ty e i ht hu hi hsize g n c cur hg (bs l) (by rw [hsz]; exact hroom) (by omega)
      rw [hr2] at hr
      injection hr with h9 _
      injection h9 with h9 _ _
      rw [← h9]
      exact Went.refl w _
    · have hr2 := Lib.run_append_grow_string (P := P) w t u ty e i (.int .u8 0) ht hu hi hz ⟨g, 0, none⟩ n c xs (by rw [hsize]; exact hown.1) (World.ownsRow.cells hown (g := g) rfl) (bs l) (by omega) (by omega) (by rw [hby]; exact growslice_fits (by omega) (by omega))
      rw [hr2] at hr
      injection hr with h9 _
      injection h9 with h9 _ _
      rw [← h9]
      exact .inr fun k hk => by cases hk; exact Nat.le_refl _

theorem wpList_append_text {P : Program} (w : World) {ops : Array Oper} {rest : List Oper} {o : Oper} {a : Act} {Q : Exit → Act → World → Prop} (hgd : o.guard = none) (s x : Operand) (t u : TypeId)
    (ho : o.op = .call { callee := .builtin .append, args := #[s, x], argTypes := #[t, u] })
    (base : Nat) (e : TypeId) (i : TypeInfo) (ht : P.underlying t = some (.slice e)) (hu : P.underlying u = some .string) (hi : P.info? e = some i) (hz : i.zero = some (.int .u8 0))
    (hsize : i.size = 1) (hby : i.bytes = 1) (A : Option Addr) (n c : Nat) (xs : List Value) (hs : a.eval s = .slice A n c) (hown : Own w base e 1 A n c xs) (l : List UInt8) (hx : a.eval x = .string (bs l))
    (h63 : n + l.length ≤ maxLen) (hbytes : n + l.length ≤ 140737488355328) (hbase : base ≤ w.heap.size)
    (h : ∀ B d w', Own w' base e 1 B (n + l.length) d (xs ++ bcs l) → w.grownBy w' (blk A) → Went w A B → wpList P ops Q rest (a.put o.dst (.slice B (n + l.length) d)) w') :
    wpList P ops Q (o :: rest) a w := by
  refine wpList_plain hgd fun K hK => ?_
  obtain ⟨B, d, w', hr, h2, h3, h5⟩ := run_append_text (P := P) w base t u o.type e i ht hu hi hz hsize hby A n c xs hown l h63 hbytes hbase
  unfold Oper.wp execOp
  simp only [ho, resolve, invoke, builtin, Sem.run_bind, Sem.run_pure, Result.andThen_ok, List.map_toArray, List.map_cons, List.map_nil, hs, hx, hr]
  exact hK _ _ (h B d w' h2 h3 h5)

end Go.Proofs.Ytdhmmhbmgobibaa
