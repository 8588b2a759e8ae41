/- Words on folds: a game of presses, plain; presses in memory; games in a slice. -/
import Derived.Test.YtihegdjdgklbgaaVmK
namespace Go.Proofs.Ytihegdjdgklbgaa
set_option maxRecDepth 100000
open Go.RowKit
set_option linter.unusedVariables false

/-- A game of presses, from a frame on. -/
def foldN (t : List UInt8) (l : List OpT) : Int → List Int → List (List UInt8) → List Int
  | _, g, [] => g
  | f, g, p :: ps => foldN t l (f + 1) (stepN t p f l g).1 ps
theorem foldN_ok (t : List UInt8) (l : List OpT) : ∀ (ps : List (List UInt8)) (f : Int) {g : List Int}, okG g → okG (foldN t l f g ps)
  | [], _, _, h => h
  | p :: ps, f, _, h => foldN_ok t l ps (f + 1) (stepN_ok t p f l h)
theorem foldN_app (t : List UInt8) (l : List OpT) : ∀ (a b : List (List UInt8)) (f : Int) (g : List Int), foldN t l f g (a ++ b) = foldN t l (f + a.length) (foldN t l f g a) b
  | [], b, f, g => by simp [foldN]
  | p :: a, b, f, g => by
    rw [List.cons_append, foldN, foldN_app t l a b (f + 1), foldN, List.length_cons]
    congr 1
    omega
theorem foldN_snoc (t : List UInt8) (l : List OpT) (f : Int) (g : List Int) {ps : List (List UInt8)} {k : Nat} (h : k < ps.length) : foldN t l f g (ps.take (k + 1)) = (stepN t ps[k] (f + k) l (foldN t l f g (ps.take k))).1 := by
  have e : (ps.take k).length = k := by simp; omega
  rw [List.take_succ_eq_append_getElem h, foldN_app, e]
  rfl

/-- A slice's header. -/
def hdr (h : Option Addr × Nat × Nat) : Value := .slice h.1 h.2.1 h.2.2
/-- Presses in memory. -/
def Rp (w : World) (A : Option Addr) (n c : Nat) (ps : List (List UInt8)) : Prop :=
  ∃ hs : List (Option Addr × Nat × Nat), Rd w 1 A n c (hs.map hdr) ∧ hs.length = ps.length ∧ ∀ (i : Nat) h p, hs[i]? = some h → ps[i]? = some p → Rb w h.1 h.2.1 h.2.2 p
section
variable {w w' : World} {A : Option Addr} {n c : Nat} {ps : List (List UInt8)}
theorem Rp.ext (h : Rp w A n c ps) (e : Ext w w') : Rp w' A n c ps := by
  obtain ⟨hs, h1, h2, h3⟩ := h
  exact ⟨hs, h1.ext e, h2, fun i a p ha hp => (h3 i a p ha hp).ext e⟩
theorem Rp.len (h : Rp w A n c ps) : n = ps.length := by
  obtain ⟨hs, h1, h2, _⟩ := h
  have := h1.1
  simp at this
  omega
theorem Rp.max (h : Rp w A n c ps) : n ≤ c ∧ c ≤ maxLen := by
  obtain ⟨hs, h1, _⟩ := h
  exact ⟨h1.2.1, h1.2.2.1⟩
theorem Rp.nil_ (w : World) : Rp w none 0 0 [] := ⟨[], Rd.nil_ w 1, rfl, by simp⟩
theorem Rp.at_ (h : Rp w A n c ps) {k : Nat} (hk : k < ps.length) : ∃ b o Ai ni ci, A = some ⟨b, o, none⟩ ∧ w.cell? ⟨b, o + k, none⟩ = some (.slice Ai ni ci) ∧ Rb w Ai ni ci ps[k] := by
  have hn := h.len
  obtain ⟨hs, h1, h2, h3⟩ := h
  obtain ⟨b, o, e, u, hu, hc⟩ := h1.at_ (k := k) (by omega)
  have hk2 : k < hs.length := by omega
  rw [List.getElem?_map, List.getElem?_eq_getElem hk2] at hu
  refine ⟨b, o, hs[k].1, hs[k].2.1, hs[k].2.2, e, ?_, h3 k _ _ (List.getElem?_eq_getElem hk2) (List.getElem?_eq_getElem hk)⟩
  rw [hc, ← hu]; rfl
theorem Rp.lt (h : Rp w A n c ps) (h0 : 0 < n) : ∀ a, A = some a → a.block < w.heap.size := by
  obtain ⟨hs, h1, _⟩ := h
  exact h1.lt (by omega)
theorem Rp.take (h : Rp w A n c ps) {k : Nat} (hk : k ≤ n) : Rp w A k c (ps.take k) := by
  obtain ⟨hs, h1, h2, h3⟩ := h
  have h4 := h1.take hk
  rw [Nat.mul_one, ← List.map_take] at h4
  refine ⟨hs.take k, h4, by simp; omega, fun i a p ha hp => ?_⟩
  rw [List.getElem?_take] at ha hp
  split at ha
  · rw [if_pos (by assumption)] at hp
    exact h3 i a p ha hp
  · cases ha
theorem Rp.drop (h : Rp w A n c ps) {k : Nat} (hk : k ≤ n) : Rp w (if c = k then A else A.map (·.add k)) (n - k) (c - k) (ps.drop k) := by
  obtain ⟨hs, h1, h2, h3⟩ := h
  have h4 := h1.drop hk
  rw [Nat.mul_one, ← List.map_drop] at h4
  refine ⟨hs.drop k, h4, by simp; omega, fun i a p ha hp => ?_⟩
  rw [List.getElem?_drop] at ha hp
  exact h3 _ a p ha hp
end
/-- Where all of the presses lay ahead of a block, a write into that block leaves them. -/
theorem Rp.keep {w0 w w' : World} {A : Option Addr} {n c : Nat} {ps : List (List UInt8)} {b : Nat} (h : Rp w0 A n c ps) (e : Ext w0 w) (hb : w0.heap.size ≤ b) (hg : w.grownBy w' (some b)) : Rp w' A n c ps := by
  obtain ⟨hs, h1, h2, h3⟩ := h
  refine ⟨hs, Rd.grownP (h1.ext e) hg (fun h0 a ha => ?_), h2, fun i a p ha hp => Rd.grownP ((h3 i a p ha hp).ext e) hg (fun h0 a' ha' => ?_)⟩
  · have := h1.lt (by omega) a ha
    intro e2; have := Option.some.inj e2; omega
  · have := Rd.lt (h3 i a p ha hp) (by omega) a' ha'
    intro e2; have := Option.some.inj e2; omega

/-- A game that stands anywhere in a block. -/
def Gat (w : World) (b o : Nat) (g : List Int) : Prop := g.length = 32 ∧ ∀ j, j < 32 → w.cell? ⟨b, o + j, none⟩ = some (.int .i32 (g.getD j 0))
theorem Gat.ext {w w' : World} {b o : Nat} {g : List Int} (h : Gat w b o g) (e : Ext w w') : Gat w' b o g := ⟨h.1, fun j hj => e.cell (h.2 j hj)⟩
theorem gat_load {P : Program} {w : World} {b o : Nat} {g : List Int} {ty e : TypeId} (hu : P.underlying ty = some (.array 32 e)) (hi : (P.info? ty).map (·.size) = some 32) (h : Gat w b o g) : (loadVar ty ⟨b, o, none⟩).run P w = .ok (.agg (gcs g)) w := by
  have hl : (loadCells ⟨b, o, none⟩ (g.map (Value.int .i32)).length).run P w = .ok (g.map (Value.int .i32)).toArray w :=
    run_loadCells_list (P := P) w ⟨b, o, none⟩ _ (fun j v hv => by
      rw [Addr.add_lit]
      have hj : j < g.length := by simpa using (List.getElem?_eq_some_iff.1 hv).1
      have h2 := gcs_at hj
      simp only [gcs, List.getElem?_toArray] at h2
      rw [hv] at h2
      rw [h.2 j (by rw [← h.1]; exact hj), ← h2])
  cases hq : P.info? ty with
  | none => simp [hq] at hi
  | some i =>
    have hs : i.size = 32 := by simpa [hq] using hi
    have hagg : (isAgg ty).run P w = .ok true w := by
      unfold isAgg
      rw [Sem.run_bind, run_underlying hu w]
      simp
    rw [List.length_map, h.1] at hl
    simp [loadVar, Sem.run_bind, hagg, sizeOf, typeInfo, hq, hs, hl, gcs]
theorem exec_load_gat {P : Program} {w : World} {b k : Nat} {g : List Int} {o : Oper} {a : Act} (ty : TypeId) (x : Operand) (ho : o.op = .load ty x) (hx : a.eval x = .pointer (some ⟨b, k, none⟩)) {e : TypeId} (hu : P.underlying ty = some (.array 32 e)) (hi : (P.info? ty).map (·.size) = some 32) (h : Gat w b k g) :
    (execOp a.eval o).run P w = .ok (.value (.agg (gcs g))) w := by
  unfold execOp
  simp only [ho, hx, Instr.loadAt, Instr.sureAddr, Sem.run_bind, Sem.run_pure, Result.andThen_ok, gat_load hu hi h]
theorem wpList_load_gat {P : Program} {w : World} {b k : Nat} {g : List Int} {ops : Array Oper} {rest : List Oper} {o : Oper} {a : Act} {Q : Exit → Act → World → Prop} (hgd : o.guard = none) (ty : TypeId) (x : Operand) (ho : o.op = .load ty x)
    (hx : a.eval x = .pointer (some ⟨b, k, none⟩)) {e : TypeId} (hu : P.underlying ty = some (.array 32 e)) (hi : (P.info? ty).map (·.size) = some 32) (h : Gat w b k g)
    (hk : wpList P ops Q rest (a.put o.dst (.agg (gcs g))) w) : wpList P ops Q (o :: rest) a w := by
  refine wpList_plain hgd fun K hK => ?_
  unfold Oper.wp execOp
  simp only [ho, hx, Instr.loadAt, Instr.sureAddr, Sem.run_bind, Sem.run_pure, Result.andThen_ok, gat_load hu hi h]
  exact hK _ _ hk

/-- Games one behind the other. -/
def gcells (g : List Int) : List Value := g.map (Value.int .i32)
def gsc (gs : List (List Int)) : List Value := gs.flatMap gcells
theorem gsc_cons (g : List Int) (gs : List (List Int)) : gsc (g :: gs) = gcells g ++ gsc gs := rfl
theorem gsc_app (a b : List (List Int)) : gsc (a ++ b) = gsc a ++ gsc b := by simp [gsc]
theorem gsc_len : ∀ {gs : List (List Int)}, (∀ g ∈ gs, g.length = 32) → (gsc gs).length = gs.length * 32
  | [], _ => rfl
  | g :: gs, h => by
    have h1 := h g (List.mem_cons_self ..)
    rw [gsc_cons, List.length_append, gsc_len (fun x hx => h x (List.mem_cons_of_mem _ hx)), List.length_cons]
    simp [gcells, h1]; omega
theorem gsc_get : ∀ (gs : List (List Int)) (k j : Nat) (hk : k < gs.length), (∀ g ∈ gs, g.length = 32) → j < 32 → (gsc gs)[k * 32 + j]? = some (.int .i32 (gs[k].getD j 0))
  | g :: gs, 0, j, _, h, hj => by
    have h1 := h g (List.mem_cons_self ..)
    rw [gsc_cons, List.getElem?_append_left (by simp [gcells, h1]; omega)]
    simp only [Nat.zero_mul, Nat.zero_add, gcells, List.getElem?_map, List.getElem_cons_zero]
    rw [List.getElem?_eq_getElem (by omega)]
    simp [List.getD, List.getElem?_eq_getElem (show j < g.length by omega)]
  | g :: gs, k + 1, j, hk, h, hj => by
    have h1 := h g (List.mem_cons_self ..)
    have e : (gcells g).length = 32 := by simp [gcells, h1]
    rw [gsc_cons, List.getElem?_append_right (by omega), e, show (k + 1) * 32 + j - 32 = k * 32 + j by omega, gsc_get gs k j (by simpa using hk) (fun x hx => h x (List.mem_cons_of_mem _ hx)) hj]
    simp
theorem gsc_one (gs : List (List Int)) : ∀ u ∈ gsc gs, u.oneCell' = true := by
  intro u hu
  obtain ⟨g, _, hg⟩ := List.mem_flatMap.1 hu
  obtain ⟨x, _, rfl⟩ := List.mem_map.1 hg
  rfl
/-- A slice of games. -/
def Rg (w : World) (A : Option Addr) (n c : Nat) (gs : List (List Int)) : Prop := Rd w 32 A n c (gsc gs) ∧ ∀ g ∈ gs, g.length = 32
theorem Rg.len {w : World} {A : Option Addr} {n c : Nat} {gs : List (List Int)} (h : Rg w A n c gs) : n = gs.length := by have := h.1.1; rw [gsc_len h.2] at this; omega
theorem Rg.max {w : World} {A : Option Addr} {n c : Nat} {gs : List (List Int)} (h : Rg w A n c gs) : n ≤ c ∧ c ≤ maxLen := ⟨h.1.2.1, h.1.2.2.1⟩
theorem Rg.ext {w w' : World} {A : Option Addr} {n c : Nat} {gs : List (List Int)} (h : Rg w A n c gs) (e : Ext w w') : Rg w' A n c gs := ⟨h.1.ext e, h.2⟩
theorem Rg.at_ {w : World} {A : Option Addr} {n c : Nat} {gs : List (List Int)} (h : Rg w A n c gs) {k : Nat} (hk : k < gs.length) : ∃ b o, A = some ⟨b, o, none⟩ ∧ Gat w b (o + k * 32) gs[k] := by
  have hn := h.len
  obtain ⟨b, o, e, hc⟩ := h.1.2.2.2 (by omega)
  refine ⟨b, o, e, h.2 _ (List.getElem_mem hk), fun j hj => ?_⟩
  rw [Nat.add_assoc]
  exact hc _ _ (gsc_get gs k j hk h.2 hj)
end Go.Proofs.Ytihegdjdgklbgaa
