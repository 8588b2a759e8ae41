/- Small facts for the rows' steps: presses that came in. -/
import Derived.Test.YtihegdjdgklbgaaRowP
import Derived.Test.YtihegdjdgklbgaaFoP
import Derived.Deep.Matrix
namespace Go.Proofs.Ytihegdjdgklbgaa
set_option maxRecDepth 100000
open Go.RowKit Go.Joins Go.ChangeShapes Go.WideShapes Go.Deep
set_option linter.unusedVariables false

section
variable {H : Type} {enc : TypeId × Value → H} {w : World} {base : Nat}
theorem press_open {fuel : Nat} {v : Value} {x : DataW H × List MemPlace} (h : DataW.trod enc Try.prog w base (fun _ => true) true fuel 26 [v] = some x) : ∃ A n c ps, v = .slice A n c ∧ Rp w A n c ps := by
  rcases open_int_rows Try.underlying26 Try.underlying43 Try.underlying5 (by kernel_rfl) (by kernel_rfl) h with ⟨h0, _⟩ | ⟨a, len, cap, A, L, C, Z, hcs, _, hl, hm, _, hr⟩
  · exact ⟨none, 0, 0, [], by simpa using h0, Rp.nil_ w⟩
  have hone : ∀ r, r < len → ∃ l, Rb w (A r) (L r) (C r) l := fun r hrl => by
    obtain ⟨h1, h2, h3, h4, h5, h6, h7⟩ := hr r (by omega)
    cases hA : A r with
    | none =>
      have hC := h6 hA
      have hL : L r = 0 := by omega
      rw [hC, hL]
      exact ⟨[], Rb.nil_ w⟩
    | some a' => exact rb_open h2 h3 h4 (fun i hi => (h7 a' hA).2 i (by omega)) h5
  obtain ⟨ps, hps, hq⟩ := pick_list len hone
  have hlen : ((List.range len).map fun r => (A r, L r, C r)).length = len := by simp
  refine ⟨some a, len, cap, ps, by simpa using hcs, (List.range len).map fun r => (A r, L r, C r), ⟨by simp, hl, hm, fun hn => ?_⟩, by rw [hlen, hps], fun i hd p hi hp => ?_⟩
  · have h00 := (hr 0 (by omega)).1
    obtain ⟨b, o, sp⟩ := a
    obtain rfl : sp = none := by simpa [Addr.add] using World.cell?_spot h00
    refine ⟨b, o, rfl, fun j u hu => ?_⟩
    rw [List.getElem?_map, List.getElem?_map] at hu
    have hj : j < len := by
      rcases Nat.lt_or_ge j len with h | h
      · exact h
      · rw [List.getElem?_eq_none (by simpa using h)] at hu; simp at hu
    rw [List.getElem?_eq_getElem (by simpa using hj), List.getElem_range] at hu
    obtain rfl : hdr (A j, L j, C j) = u := by simpa using hu
    have := (hr j (by omega)).1
    rw [Addr.add_lit] at this
    exact this
  · have hil : i < len := by
      have := (List.getElem?_eq_some_iff.1 hi).1
      simpa using this
    rw [List.getElem?_map, List.getElem?_eq_getElem (by simpa using hil), List.getElem_range] at hi
    obtain rfl : (A i, L i, C i) = hd := by simpa using hi
    have hip : i < ps.length := by omega
    rw [List.getElem?_eq_getElem hip] at hp
    obtain rfl : ps[i] = p := by simpa using hp
    exact hq i hip
end
end Go.Proofs.Ytihegdjdgklbgaa
