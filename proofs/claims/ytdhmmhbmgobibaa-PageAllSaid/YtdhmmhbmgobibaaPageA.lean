/- The walk of the law PageAll. -/
import Derived.Test.YtdhmmhbmgobibaaPageL4
import Derived.Deep.DeepCutAuto
import Derived.Deep.CutBlock
import Derived.RegionTactic
import Derived.ChangeAlike
namespace Go.Proofs.Ytdhmmhbmgobibaa
open Go.RowKit
set_option linter.unusedVariables false

/-- An operation: its kind, page, place, number. -/
abbrev OpG := Int × Int × Int × Int
def gcells (o : OpG) : List Value := [.int .i64 o.1, .int .i64 o.2.1, .int .i64 o.2.2.1, .int .i32 o.2.2.2]
def gops (l : List OpG) : List Value := l.flatMap gcells
theorem gops_cons (o : OpG) (l : List OpG) : gops (o :: l) = gcells o ++ gops l := rfl
theorem gops_len : ∀ l : List OpG, (gops l).length = l.length * 4
  | [] => rfl
  | o :: l => by rw [gops_cons, List.length_append, gops_len l, List.length_cons]; simp [gcells]; omega
theorem gops_get : ∀ (l : List OpG) (k j : Nat) (hk : k < l.length), j < 4 → (gops l)[k * 4 + j]? = (gcells l[k])[j]?
  | o :: l, 0, j, _, hj => by
    rw [gops_cons, List.getElem?_append_left (by simp [gcells]; omega)]
    simp
  | o :: l, k + 1, j, hk, hj => by
    have e : (gcells o).length = 4 := rfl
    rw [gops_cons, List.getElem?_append_right (by omega), e, show (k + 1) * 4 + j - 4 = k * 4 + j by omega, gops_get l k j (by simpa using hk) hj]
    simp
def okG4 (o : OpG) : Prop := (-9223372036854775808 ≤ o.1 ∧ o.1 ≤ 9223372036854775807) ∧ (-9223372036854775808 ≤ o.2.1 ∧ o.2.1 ≤ 9223372036854775807) ∧ (-9223372036854775808 ≤ o.2.2.1 ∧ o.2.2.1 ≤ 9223372036854775807) ∧ (-2147483648 ≤ o.2.2.2 ∧ o.2.2.2 ≤ 2147483647)
def Rog (w : World) (A : Option Addr) (n c : Nat) (l : List OpG) : Prop := Rd w 4 A n c (gops l) ∧ ∀ o ∈ l, okG4 o
theorem Rog.len {w : World} {A : Option Addr} {n c : Nat} {l : List OpG} (h : Rog w A n c l) : n = l.length := by
  have := h.1.1
  rw [gops_len] at this
  omega
theorem Rog.at_ {w : World} {A : Option Addr} {n c : Nat} {l : List OpG} (h : Rog w A n c l) {k : Nat} (hk : k < l.length) : ∃ b o, A = some ⟨b, o, none⟩ ∧ w.cell? ⟨b, o + k * 4, none⟩ = some (.int .i64 l[k].1) ∧ w.cell? ⟨b, o + k * 4 + 1, none⟩ = some (.int .i64 l[k].2.1) ∧ w.cell? ⟨b, o + k * 4 + 2, none⟩ = some (.int .i64 l[k].2.2.1) ∧ w.cell? ⟨b, o + k * 4 + 3, none⟩ = some (.int .i32 l[k].2.2.2) := by
  have hn := h.len
  obtain ⟨b, o, e, hc⟩ := h.1.2.2.2 (by omega)
  have hg := fun j (hj : j < 4) => gops_get l k j hk hj
  exact ⟨b, o, e, hc _ _ ((hg 0 (by decide)).trans rfl), hc _ _ ((hg 1 (by decide)).trans rfl), hc _ _ ((hg 2 (by decide)).trans rfl), hc _ _ ((hg 3 (by decide)).trans rfl)⟩
theorem info_sheet : (Try.prog.info? 31).map (fun i => (i.zero, i.size, i.bytes)) = some (some (.agg #[.int .i64 0, .int .i32 0, .int .i32 0, .int .i32 0, .int .i32 0, .int .i32 0, .int .i32 0, .int .i32 0, .int .i32 0]), 9, 40) := by kernel_rfl
def sheetz : Array Value := #[.int .i64 0, .int .i32 0, .int .i32 0, .int .i32 0, .int .i32 0, .int .i32 0, .int .i32 0, .int .i32 0, .int .i32 0]
theorem sheet_at (m k i : Nat) (hk : k < m) (hi : i < 9) : (madeCells sheetz (m * 9))[k * 9 + i]? = some (sheetz[i]'hi) := by
  have hlt : k * 9 + i < m * 9 := by omega
  unfold madeCells
  rw [Array.getElem?_map, Array.getElem?_range, if_pos hlt]
  simp only [Option.map_some]
  have e : (k * 9 + i) % sheetz.size = i := by show (k * 9 + i) % 9 = i; omega
  rw [e, getElem!_pos sheetz i hi]
theorem sheetz_at : ∀ i (h : i < 8), sheetz[i + 1]'(Nat.succ_lt_succ h) = .int .i32 0
  | 0, _ => rfl | 1, _ => rfl | 2, _ => rfl | 3, _ => rfl | 4, _ => rfl | 5, _ => rfl | 6, _ => rfl | 7, _ => rfl
  | n + 8, h => by omega
theorem sheets_made (w : World) (n : Nat) : Sheets (w.alloc (.cells (madeCells sheetz ((n + 1) * 9)) 31)) w.heap.size n (fun _ => 0) (fun _ _ => 0) := by
  have hcell : ∀ o v, (madeCells sheetz ((n + 1) * 9))[o]? = some v → (w.alloc (.cells (madeCells sheetz ((n + 1) * 9)) 31)).cell? ⟨w.heap.size, o, none⟩ = some v := by
    intro o v h
    rw [cell_of_row _ _ _ _ _ _ (heap_alloc_new w _)]; exact h
  refine ⟨fun p hp => ?_, fun p i hp hi => ?_, fun o => ?_, by simp⟩
  · have h := sheet_at (n + 1) p 0 (by omega) (by omega)
    rw [Nat.add_zero] at h
    rw [hcell (p * 9) _ h]
    cases p <;> rfl
  · have h := sheet_at (n + 1) p (i + 1) (by omega) (by omega)
    rw [hcell _ _ h, sheetz_at i hi]
    cases p <;> rfl
  · simp only [World.frozen?]
    rw [heap_alloc_new]
    simp
theorem Sheets.congr {w : World} {lb n : Nat} {rf rf' : Nat → Int} {vs vs' : Nat → Nat → Int} (h : Sheets w lb n rf vs) (h1 : ∀ k, k < n → rf' k = rf k) (h2 : ∀ k i, k < n → i < 8 → vs' k i = vs k i) : Sheets w lb n rf' vs' := by
  refine ⟨fun p hp => ?_, fun p i hp hi => ?_, h.free, h.lt⟩
  · have := h.refs p hp
    cases p with
    | zero => exact this
    | succ k => rw [this]; show _ = some (Value.int IntKind.i64 (rf' k)); rw [h1 k (by omega)]; rfl
  · have := h.vals p i hp hi
    cases p with
    | zero => exact this
    | succ k => rw [this]; show _ = some (Value.int IntKind.i32 (vs' k i)); rw [h2 k i (by omega) hi]; rfl
theorem Sheets.keep {w w' : World} {lb n g : Nat} {rf : Nat → Int} {vs : Nat → Nat → Int} (h : Sheets w lb n rf vs) (hg : w.grownBy w' (some g)) (hne : g ≠ lb) : Sheets w' lb n rf vs := by
  have hc : ∀ o v, w.cell? ⟨lb, o, none⟩ = some v → w'.cell? ⟨lb, o, none⟩ = some v := fun o v hv => hg.cell hv (fun e => hne (Option.some.inj e).symm)
  refine ⟨fun p hp => hc _ _ (h.refs p hp), fun p i hp hi => hc _ _ (h.vals p i hp hi), fun o => ?_, Nat.lt_of_lt_of_le h.lt hg.size⟩
  have hb := hg.block lb h.lt (fun e => hne (Option.some.inj e).symm)
  have hf := h.free o
  simp only [World.frozen?] at hf ⊢
  rw [hb]; exact hf
theorem Room.keep {w w' : World} {b g n c : Nat} {rf : Nat → Int} {vs : Nat → Nat → Int} (h : Room w b g n rf vs) (hg : w.grownBy w' (some c)) (hb : b ≠ c) (hgc : g ≠ c) : Room w' b g n rf vs := by
  have hc : ∀ o v, w.cell? ⟨g, o, none⟩ = some v → w'.cell? ⟨g, o, none⟩ = some v := fun o v hv => hg.cell hv (fun e => hgc (Option.some.inj e))
  refine ⟨h.ne, hg.cell h.hd (fun e => hb (Option.some.inj e)), h.small, fun k hk => hc _ _ (h.refs k hk), fun k i hk hi => hc _ _ (h.vals k i hk hi), fun o => ?_, Nat.lt_of_lt_of_le h.lt hg.size⟩
  have hbk := hg.block g h.lt (fun e => hgc (Option.some.inj e))
  have hf := h.free o
  simp only [World.frozen?] at hf ⊢
  rw [hbk]; exact hf
theorem sr_upd (rf : Nat → Int) (k : Nat) (x : Int) (p : Nat) : sr (upd rf k x) p = if p = k + 1 then x else sr rf p := by
  cases p with
  | zero => rfl
  | succ j => by_cases e : j = k <;> simp [sr, upd, e]
theorem Sheets.setRef {w : World} {lb n : Nat} {rf : Nat → Int} {vs : Nat → Nat → Int} (h : Sheets w lb n rf vs) {k : Nat} (hk : k < n) (x : Int) : Sheets (w.setCell ⟨lb, (k + 1) * 9, none⟩ (.int .i64 x)) lb n (upd rf k x) vs := by
  refine ⟨fun p hp => ?_, fun p i hp hi => ?_, fun o => ?_, ?_⟩
  · rw [sr_upd]
    by_cases e : p = k + 1
    · subst e
      rw [if_pos rfl]
      exact World.cell?_setCell_same _ _ _ (h.refs _ hp)
    · rw [if_neg e, World.cell?_setCell_other _ _ _ _ (by intro e'; injection e' with _ e2; omega)]
      exact h.refs p hp
  · rw [World.cell?_setCell_other _ _ _ _ (by intro e'; injection e' with _ e2; omega)]
    exact h.vals p i hp hi
  · rw [frozen_set]; exact h.free o
  · simpa [World.setCell] using h.lt
theorem sv_upd (vs : Nat → Nat → Int) (k : Nat) (u : Nat → Int) (p : Nat) : sv (upd vs k u) p = if p = k + 1 then u else sv vs p := by
  cases p with
  | zero => rfl
  | succ j => by_cases e : j = k <;> simp [sv, upd, e]
theorem Sheets.setVal {w : World} {lb n : Nat} {rf : Nat → Int} {vs : Nat → Nat → Int} (h : Sheets w lb n rf vs) {k i : Nat} (hk : k < n) (hi : i < 8) (x : Int) : Sheets (w.setCell ⟨lb, (k + 1) * 9 + (i + 1), none⟩ (.int .i32 x)) lb n rf (upd vs k (upd (vs k) i x)) := by
  refine ⟨fun p hp => ?_, fun p i' hp hi' => ?_, fun o => ?_, ?_⟩
  · rw [World.cell?_setCell_other _ _ _ _ (by intro e'; injection e' with _ e2; omega)]
    exact h.refs p hp
  · rw [sv_upd]
    by_cases e : p = k + 1
    · subst e
      rw [if_pos rfl]
      by_cases e' : i' = i
      · subst e'
        rw [upd_same]
        exact World.cell?_setCell_same _ _ _ (h.vals _ i' hp hi')
      · rw [upd_other _ _ e', World.cell?_setCell_other _ _ _ _ (by intro e'; injection e' with _ e2; omega)]
        exact h.vals (k + 1) i' hp hi'
    · rw [if_neg e, World.cell?_setCell_other _ _ _ _ (by intro e'; injection e' with _ e2; omega)]
      exact h.vals p i' hp hi'
  · rw [frozen_set]; exact h.free o
  · simpa [World.setCell] using h.lt
theorem Sheets.put {w : World} {lb n : Nat} {rf : Nat → Int} {vs : Nat → Nat → Int} (h : Sheets w lb n rf vs) {k : Nat} (hk : k < n) (x : Int) (u : Nat → Int) :
    Sheets (((((((((w.setCell ⟨lb, (k + 1) * 9, none⟩ (.int .i64 x)).setCell ⟨lb, (k + 1) * 9 + 1, none⟩ (.int .i32 (u 0))).setCell ⟨lb, (k + 1) * 9 + 2, none⟩ (.int .i32 (u 1))).setCell ⟨lb, (k + 1) * 9 + 3, none⟩ (.int .i32 (u 2))).setCell ⟨lb, (k + 1) * 9 + 4, none⟩ (.int .i32 (u 3))).setCell ⟨lb, (k + 1) * 9 + 5, none⟩ (.int .i32 (u 4))).setCell ⟨lb, (k + 1) * 9 + 6, none⟩ (.int .i32 (u 5))).setCell ⟨lb, (k + 1) * 9 + 7, none⟩ (.int .i32 (u 6))).setCell ⟨lb, (k + 1) * 9 + 8, none⟩ (.int .i32 (u 7))) lb n (upd rf k x) (upd vs k u) := by
  have h1 := ((((((((h.setRef hk x).setVal hk (i := 0) (by omega) (u 0)).setVal hk (i := 1) (by omega) (u 1)).setVal hk (i := 2) (by omega) (u 2)).setVal hk (i := 3) (by omega) (u 3)).setVal hk (i := 4) (by omega) (u 4)).setVal hk (i := 5) (by omega) (u 5)).setVal hk (i := 6) (by omega) (u 6)).setVal hk (i := 7) (by omega) (u 7)
  refine Sheets.congr h1 (fun _ _ => rfl) fun j' i _ hi => ?_
  by_cases e : j' = k
  · subst e
    simp only [upd_same]
    simp only [upd]
    repeat' split
    all_goals first | (subst_vars; rfl) | omega
  · simp only [upd_other _ _ e]
theorem frozen_grown {w w' : World} {g : Nat} {p : Addr} (h : w.grownBy w' (some g)) (hl : p.block < w.heap.size) (hne : g ≠ p.block) : w'.frozen? p = w.frozen? p := by
  have hb := h.block p.block hl (fun e => hne (Option.some.inj e).symm)
  simp only [World.frozen?]
  rw [hb]
/-- The least page that is free, from the m-th on. -/
def FreeAt (n : Nat) (rf : Nat → Int) (m fr : Nat) : Prop := (fr = 0 ∧ ∀ j, m ≤ j → j < n → rf j ≠ 0) ∨ (∃ j, m ≤ j ∧ j < n ∧ fr = j + 1 ∧ rf j = 0 ∧ ∀ i, m ≤ i → i < j → rf i ≠ 0)
def paRel (w : World) (b g lb N on : Nat) (iv : Value) (wr : World) : Prop := ∃ (i : Nat) (rf : Nat → Int) (vs : Nat → Nat → Int), iv = .int .i64 (i : Nat) ∧ i ≤ on ∧ i ≤ 60 ∧ Room wr b g N rf vs ∧ Sheets wr lb N rf vs ∧ (∀ k, k < N → 0 ≤ rf k ∧ rf k ≤ 1 + i) ∧ Ext w wr
def pfRel (W : World) (N : Nat) (rf : Nat → Int) (fv kv : Value) (wr : World) : Prop := ∃ m fr : Nat, fv = .int .i64 (fr : Nat) ∧ kv = .int .i64 (m : Nat) ∧ m ≤ N ∧ FreeAt N rf m fr ∧ wr = W
structure PaCx (w wr : World) (b g lb N i fr tb : Nat) (rf : Nat → Int) (vs : Nat → Nat → Int) (kd pg pl va : Int) : Prop where
  hr : Room wr b g N rf vs
  hs : Sheets wr lb N rf vs
  hbd : ∀ k, k < N → 0 ≤ rf k ∧ rf k ≤ 1 + (i : Int)
  xV : Ext w wr
  t0 : wr.cell? ⟨tb, 0, none⟩ = some (.int .i64 kd)
  t1 : wr.cell? ⟨tb, 1, none⟩ = some (.int .i64 pg)
  t2 : wr.cell? ⟨tb, 2, none⟩ = some (.int .i64 pl)
  t3 : wr.cell? ⟨tb, 3, none⟩ = some (.int .i32 va)
  htb : tb ≠ lb
  htg : tb ≠ g
  hbc : b ≠ lb
  hgc : g ≠ lb
  hwb : w.heap.size ≤ b
  hwg : w.heap.size ≤ g
  hwl : w.heap.size ≤ lb
  hi60 : i < 60
  hN : N ≤ 12
  hpg : -9223372036854775808 ≤ pg ∧ pg ≤ 9223372036854775807
def PaOut (w : World) (b g lb N i : Nat) (wx : World) : Prop := ∃ rf' vs', Room wx b g N rf' vs' ∧ Sheets wx lb N rf' vs' ∧ (∀ k, k < N → 0 ≤ rf' k ∧ rf' k ≤ 1 + ((i + 1 : Nat) : Int)) ∧ Ext w wx
/-- The block of a number in a code. -/
def blockOf (n : Nat) : Code → Option Code
  | .block k c => if k = n then some (.block k c) else blockOf n c
  | .loop c => blockOf n c
  | .seq a b => match blockOf n a with
    | some c => some c
    | none => blockOf n b
  | .scope c => blockOf n c
  | .cond _ a b => match blockOf n a with
    | some c => some c
    | none => blockOf n b
  | _ => none
noncomputable def swC : Code := (Try.f3.body.bind (blockOf 4)).getD .skip
end Go.Proofs.Ytdhmmhbmgobibaa
