/- What the bound of the second form gives: a program's title. -/
import Derived.Test.YtiikipdghpnaeaaRows
import Derived.Test.YtiikipdghpnaeaaRowP
namespace Go.Proofs.Ytiikipdghpnaeaa
open Go.RowKit Go.Joins Go.ChangeShapes Go.WideShapes Go.Deep

section
variable {H : Type} {enc : TypeId × Value → H} {w : World} {base : Nat}
theorem prog_openU {r : Reach} {b0 : Nat} {v : Value} {d : DataW H} {p : List MemPlace} (hv : Value.okWide Try.prog w r b0 24 v) (h : DataW.Trod enc Try.prog w base (fun _ => true) true 24 v d p) :
    ∃ t A n c l, v = pAgg t A n c ∧ t.length ≤ maxLen ∧ Ro w A n c l ∧ (∀ o ∈ l, okO o) ∧ t.length + 1 ≤ Rows.uptoBulk d := by
  obtain ⟨v0, v1, y0, y1, n, rfl, rfl, _, h0, h1⟩ := open_agg2 Try.underlying24 (by kernel_rfl) (by kernel_rfl) hv h
  obtain ⟨s, hs, hy, hm⟩ := DataW.trod_string Try.underlying9 h0
  obtain ⟨A, n', c, l, rfl, hl, hok⟩ := ops_open h1
  refine ⟨s.data.toList, A, n', c, l, ?_, by rw [← bs_size, bs_of]; exact hm, hl, hok, ?_⟩
  · unfold pAgg
    rw [bs_of, show v0 = .string s by simpa using hs]
  · rw [hy]
    simp only [Rows.uptoBulk, Rows.uptoBulkAll]
    omega
end
end Go.Proofs.Ytiikipdghpnaeaa
