/- Words for regions in which an append onto a slice of the call's own stands beside calls that make new memory (RegG): what each operation does, what holds until the append runs. No program in sight. -/
import Derived.Test.YtehelhennbcboaaRegG
namespace Go.Proofs.Ytehelhennbcboaa
open Go.RowKit

/-- 'append(s, x...)' onto a slice of the call's own, as one operation. -/
theorem exec_append_to {P : Program} (w : World) {o : Oper} {a : Act} (s x : Operand) (t : TypeId)
    (ho : o.op = .call { callee := .builtin .append, args := #[s, x], argTypes := #[t, t] })
    (base : Nat) (e : TypeId) (i : TypeInfo) (z : Value) (size bytes : Nat) (ht : P.underlying t = some (.slice e)) (hi : P.info? e = some i) (hz : i.zero = some z)
    (hsize : i.size = size) (hby : i.bytes = bytes) (hzs : z.cells.size = size) (hsz : 0 < size)
    (A : Option Addr) (n c : Nat) (xs : List Value) (hs : a.eval s = .slice A n c) (hown : Own w base e size A n c xs)
    (A' : Option Addr) (m c' : Nat) (news : List Value) (hx : a.eval x = .slice A' m c') (hr : Rd w size A' m c' news) (h1 : ∀ u ∈ news, u.oneCell' = true)
    (h63 : n + m ≤ maxLen) (hbytes : (n + m) * bytes ≤ 140737488355328) (hbase : base ≤ w.heap.size) :
    ∃ u w', (execOp a.eval o).run P w = .ok (.value u) w' ∧ w.grownBy w' (blk A) ∧ ∃ B d, u = .slice B (n + m) d ∧ Own w' base e size B (n + m) d (xs ++ news) ∧ (blk B = blk A ∨ blk B = some w.heap.size) := by
  obtain ⟨B, d, w', hr2, h2, h3, h4⟩ := run_append_to (P := P) w base t o.type e i z size bytes ht hi hz hsize hby hzs hsz A n c xs hown A' m c' news hr h1 h63 hbytes hbase
  refine ⟨.slice B (n + m) d, w', ?_, h3, B, d, rfl, h2, h4⟩
  unfold execOp
  simp only [ho, resolve, invoke, builtin, Sem.run_bind, Sem.run_pure, Result.andThen_ok, List.map_toArray, List.map_cons, List.map_nil, hs, hx, hr2]

/-- All blocks but C's are as they were. -/
def gR (C : Option Addr) (w w' : World) : Prop := w.grownBy w' (blk C)
/-- The k-th operation writes C's block; the others make new memory. -/
def gRs (k : Nat) (C : Option Addr) (j : Nat) (w w' : World) : Prop := (j = k ∧ w.grownBy w' (blk C)) ∨ Ext w w'
/-- Until the k-th one runs C's slice is as it was. -/
def gJ (k base : Nat) (e : TypeId) (C : Option Addr) (n c : Nat) (xs : List Value) (j : Nat) (w : World) : Prop := j = k → Own w base e 1 C n c xs
theorem gR.refl (C : Option Addr) : ∀ w, gR C w w := fun w => World.grownBy.refl w _
theorem gR.trans (C : Option Addr) : ∀ a b c, gR C a b → gR C b c → gR C a c := fun _ _ _ => grown_trans
theorem gR.sz (C : Option Addr) : ∀ a b, gR C a b → a.heap.size ≤ b.heap.size := fun _ _ h => World.grownBy.size h
theorem gR.size {C : Option Addr} {w w' : World} (h : gR C w w') : w.heap.size ≤ w'.heap.size := World.grownBy.size h
theorem gR.cell {C : Option Addr} {w w' : World} (h : gR C w w') {p : Addr} {v : Value} (hc : w.cell? p = some v) (hne : blk C ≠ some p.block) : w'.cell? p = some v := World.grownBy.cell h hc hne.symm
theorem gR.drew (C : Option Addr) (w : World) : gR C w w.drew := (Ext.drew w).grownBy _
theorem gRs.refl (k : Nat) (C : Option Addr) : ∀ i w, gRs k C i w w := fun _ w => .inr (Ext.refl w)
theorem gJ.stab (k base : Nat) (e : TypeId) (C : Option Addr) (n c : Nat) (xs : List Value) : ∀ j i, i ≠ j → ∀ w w', gJ k base e C n c xs j w → gRs k C i w w' → gJ k base e C n c xs j w' := by
  intro j i hij w w' hJ hR hjk
  rcases hR with ⟨h, _⟩ | h
  · exact absurd (h.trans hjk.symm) hij
  · exact (hJ hjk).ext h
theorem gJ.start {k base : Nat} {e : TypeId} {C : Option Addr} {n c : Nat} {xs : List Value} {w : World} (h : Own w base e 1 C n c xs) : ∀ i, gJ k base e C n c xs i w.drew := fun _ _ => h.ext (Ext.drew w)

/-- A value that is a slice of the call's own, from base on, of these cells. -/
def SlP (base : Nat) (e : TypeId) (xs : List Value) (v : Value) (w : World) : Prop := ∃ B m d, v = .slice B m d ∧ Own w base e 1 B m d xs
theorem SlP.stab {base : Nat} {e : TypeId} {xs : List Value} {k i : Nat} {C : Option Addr} (hC : ∀ g, blk C = some g → g < base) : ∀ j, j ≠ i → ∀ v w w', SlP base e xs v w → gRs k C j w w' → SlP base e xs v w' := by
  rintro j _ v w w' ⟨B, m, d, hv, h⟩ hR
  refine ⟨B, m, d, hv, ?_⟩
  rcases hR with ⟨_, hg⟩ | hg
  · refine h.kept hg ?_
    rcases hb : blk B with _ | g
    · exact .inl rfl
    · refine .inr fun e => ?_
      have h1 := h.blk_ge g hb
      have h2 := hC g e.symm
      omega
  · exact h.ext hg
/-- What the append hands back; it does not lie in block g. -/
def ApP (base : Nat) (e : TypeId) (g : Nat) (xs : List Value) (v : Value) (w : World) : Prop := ∃ B m d, v = .slice B m d ∧ Own w base e 1 B m d xs ∧ blk B ≠ some g
theorem ApP.stab {base : Nat} {e : TypeId} {g : Nat} {xs : List Value} {k : Nat} {C : Option Addr} : ∀ j, j ≠ k → ∀ v w w', ApP base e g xs v w → gRs k C j w w' → ApP base e g xs v w' := by
  rintro j hj v w w' ⟨B, m, d, hv, h, hn⟩ hR
  refine ⟨B, m, d, hv, ?_, hn⟩
  rcases hR with ⟨h1, _⟩ | hg
  · exact absurd h1 hj
  · exact h.ext hg
/-- The append itself, as RegG asks it. -/
theorem exec_append_ap {P : Program} {k g : Nat} (w : World) {o : Oper} {a : Act} (s x : Operand) (t : TypeId)
    (ho : o.op = .call { callee := .builtin .append, args := #[s, x], argTypes := #[t, t] })
    (base : Nat) (e : TypeId) (i : TypeInfo) (z : Value) (bytes : Nat) (ht : P.underlying t = some (.slice e)) (hi : P.info? e = some i) (hz : i.zero = some z)
    (hsize : i.size = 1) (hby : i.bytes = bytes) (hzs : z.cells.size = 1)
    (A : Option Addr) (n c : Nat) (xs : List Value) (hs : a.eval s = .slice A n c) (hown : Own w base e 1 A n c xs)
    (A' : Option Addr) (m c' : Nat) (news : List Value) (hx : a.eval x = .slice A' m c') (hr : Rd w 1 A' m c' news) (h1 : ∀ u ∈ news, u.oneCell' = true)
    (h63 : n + m ≤ maxLen) (hbytes : (n + m) * bytes ≤ 140737488355328) (hbase : base ≤ w.heap.size) (hg : blk A ≠ some g) (hgw : g < w.heap.size) :
    ∃ u w', (execOp a.eval o).run P w = .ok (.value u) w' ∧ gR A w w' ∧ gRs k A k w w' ∧ ApP base e g (xs ++ news) u w' := by
  obtain ⟨u, w', hrun, hgr, B, d, hu, ho', hw'⟩ := exec_append_to (P := P) w s x t ho base e i z 1 bytes ht hi hz hsize hby hzs (by decide) A n c xs hs hown A' m c' news hx hr h1 h63 hbytes hbase
  refine ⟨u, w', hrun, hgr, .inl ⟨rfl, hgr⟩, B, _, d, hu, ho', fun e => ?_⟩
  rcases hw' with h | h
  · exact hg (h.symm.trans e)
  · rw [h] at e
    have e2 := Option.some.inj e
    omega
end Go.Proofs.Ytehelhennbcboaa
