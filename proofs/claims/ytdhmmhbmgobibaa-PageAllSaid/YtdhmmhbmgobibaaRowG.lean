/- Small facts for the row's step of PageAll: operations that came in. -/
import Derived.Test.YtdhmmhbmgobibaaRow
import Derived.Test.YtdhmmhbmgobibaaPageL5
import Derived.Deep.Slices
import Derived.Deep.Fields
import Derived.ChangeSame
import Derived.Lib.SmallJoins
namespace Go.Proofs.Ytdhmmhbmgobibaa
open Go.RowKit Go.Joins Go.ChangeShapes Go.WideShapes Go.Deep

theorem pick_list {α : Type} {Q : Nat → α → Prop} : ∀ n : Nat, (∀ i, i < n → ∃ x, Q i x) → ∃ l : List α, l.length = n ∧ ∀ i (h : i < l.length), Q i l[i]
  | 0, _ => ⟨[], rfl, fun i h => by simp at h⟩
  | n + 1, h => by
    obtain ⟨l, hl, hq⟩ := pick_list n fun i hi => h i (by omega)
    obtain ⟨x, hx⟩ := h n (by omega)
    refine ⟨l ++ [x], by simp [hl], fun i hi => ?_⟩
    by_cases e : i < l.length
    · rw [List.getElem_append_left e]; exact hq i e
    · have hi' : i = l.length := by simp at hi; omega
      subst hi'
      rw [List.getElem_append_right (Nat.le_refl _)]
      simp only [Nat.sub_self, List.getElem_cons_zero]
      rw [hl]; exact hx

section
variable {H : Type} {enc : TypeId × Value → H} {P : Program} {w : World} {base : Nat} {spare : Nat → Bool} {held : Bool}
theorem open_slice_cells {t e : TypeId} {fs : Array Field} {fuel : Nat} {cs : List Value} {x : DataW H × List MemPlace} (ht : P.underlying t = some (.slice e)) (he : P.underlying e = some (.struct fs))
    (hone : oneCellFields P fs = true) (hC : P.cellsOf e = fs.size) (h : DataW.trod enc P w base spare held fuel t cs = some x) :
    (cs = [.slice none 0 0]) ∨
    ∃ (a : Addr) (len cap m : Nat), cs = [.slice (some a) len cap] ∧ len ≤ cap ∧ cap ≤ maxLen ∧ m = (if spare a.block then cap else len) ∧
      ∀ i, i < m → ∃ n : Nat, ∀ (j : Nat) (f : Field), fs[j]? = some f → ∃ (v : Value) (y : DataW H × List MemPlace), w.cell? (a.add (i * fs.size + j)) = some v ∧ DataW.trod enc P w base spare held n f.type [v] = some y := by
  rcases open_slice ht h with h0 | ⟨a, len, cap, m, n, D, Pl, hcs, hb, hl, hm, hmm, hx, hi⟩
  · exact .inl h0.1
  · refine .inr ⟨a, len, cap, m, hcs, hl, hm, hmm, fun i him => ?_⟩
    obtain ⟨cs', hc, ht'⟩ := hi i him
    rw [hC] at hc
    obtain ⟨ys, n', hn', hy, hlen, hyl, hf⟩ := DataW.trod_struct he ht'
    obtain ⟨_, hcl, hat⟩ := World.cells?_some hc
    refine ⟨n', fun j f hj => ?_⟩
    obtain ⟨ho, hk⟩ := hone_of hone j f hj
    have hjl : j < fs.size := (Array.getElem?_eq_some_iff.1 hj).1
    have hcell := hat j hjl
    have hv : cs'[j]? = some (cs'[j]'(by omega)) := List.getElem?_eq_getElem (by omega)
    have h1 := hf j f hj
    rw [ho, hk] at h1
    have hone' : (cs'.drop j).take 1 = [cs'[j]'(by omega)] := by
      rw [List.drop_eq_getElem_cons (by omega)]
      rfl
    rw [hone'] at h1
    have hys : ys[j]? = some (ys[j]'(by omega)) := List.getElem?_eq_getElem (by omega)
    refine ⟨_, _, ?_, h1.trans hys⟩
    rw [← Go.Deep.add_add, hcell, hv]
end

section
variable {H : Type} {enc : TypeId × Value → H} {w : World} {base : Nat}
theorem int_one {n : Nat} {v : Value} {y : DataW H × List MemPlace} (h : DataW.trod enc Try.prog w base (fun _ => true) true n 3 [v] = some y) : ∃ z, v = .int .i64 z ∧ -9223372036854775808 ≤ z ∧ z ≤ 9223372036854775807 := by
  obtain ⟨z, hcs, _, hw⟩ := DataW.trod_int Try.underlying3 h
  exact ⟨z, by simpa using hcs, bd_i64 hw⟩
theorem int_four {n : Nat} {v : Value} {y : DataW H × List MemPlace} (h : DataW.trod enc Try.prog w base (fun _ => true) true n 21 [v] = some y) : ∃ z, v = .int .i32 z ∧ -2147483648 ≤ z ∧ z ≤ 2147483647 := by
  obtain ⟨z, hcs, _, hw⟩ := DataW.trod_int Try.underlying21 h
  exact ⟨z, by simpa using hcs, bd_i32 hw⟩
theorem ops_open {fuel : Nat} {v : Value} {x : DataW H × List MemPlace} (h : DataW.trod enc Try.prog w base (fun _ => true) true fuel 22 [v] = some x) :
    ∃ A n c l, v = .slice A n c ∧ Rog w A n c l := by
  rcases open_slice_cells Try.underlying22 Try.underlying28 (by kernel_rfl) (by kernel_rfl) h with h0 | ⟨a, len, cap, m, hcs, hl, hm, hmm, hi⟩
  · exact ⟨none, 0, 0, [], by simpa using h0, Rd.nil_ w 4, by simp⟩
  · have hmc : m = cap := by rw [hmm]; simp
    subst hmc
    have hp : ∀ i, i < len → ∃ o : OpG, okG4 o ∧ ∀ j (hj : j < 4), w.cell? (a.add (i * 4 + j)) = some ((gcells o)[j]'(by show j < 4; exact hj)) := by
      intro i hlt
      obtain ⟨n', hf⟩ := hi i (by omega)
      obtain ⟨v0, y0, c0, t0⟩ := hf 0 _ rfl
      obtain ⟨v1, y1, c1, t1⟩ := hf 1 _ rfl
      obtain ⟨v2, y2, c2, t2⟩ := hf 2 _ rfl
      obtain ⟨v3, y3, c3, t3⟩ := hf 3 _ rfl
      obtain ⟨z0, rfl, k0⟩ := int_one t0
      obtain ⟨z1, rfl, k1⟩ := int_one t1
      obtain ⟨z2, rfl, k2⟩ := int_one t2
      obtain ⟨z3, rfl, k3⟩ := int_four t3
      refine ⟨(z0, z1, z2, z3), ⟨k0, k1, k2, k3⟩, fun j hj => ?_⟩
      have hc : j = 0 ∨ j = 1 ∨ j = 2 ∨ j = 3 := by omega
      rcases hc with rfl | rfl | rfl | rfl
      · exact c0
      · exact c1
      · exact c2
      · exact c3
    obtain ⟨l, hll, hlq⟩ := pick_list len hp
    refine ⟨some a, len, m, l, by simpa using hcs, ⟨by rw [gops_len, hll], hl, hm, fun hn => ?_⟩, fun o ho => ?_⟩
    · have h00 := (hlq 0 (by omega)).2 0 (by decide)
      obtain ⟨b, o, sp⟩ := a
      obtain rfl : sp = none := by simpa [Addr.add] using World.cell?_spot h00
      refine ⟨b, o, rfl, fun j u hu => ?_⟩
      have hj : j < l.length * 4 := by
        have := (List.getElem?_eq_some_iff.1 hu).1
        rwa [gops_len] at this
      have hq := (hlq (j / 4) (by omega)).2 (j % 4) (by omega)
      have hg := gops_get l (j / 4) (j % 4) (by omega) (by omega)
      rw [show j / 4 * 4 + j % 4 = j by omega] at hq hg
      rw [hu, List.getElem?_eq_getElem (by show j % 4 < 4; omega)] at hg
      rw [Addr.add_lit] at hq
      rw [hq, ← hg]
    · obtain ⟨i, hi', rfl⟩ := List.getElem_of_mem ho
      exact (hlq i hi').1
end
end Go.Proofs.Ytdhmmhbmgobibaa
