/- Small facts for the rows' steps: what players told that came in. -/
import Derived.Test.YtihegdjdgklbgaaRowR
import Derived.Test.YtihegdjdgklbgaaJuG
namespace Go.Proofs.Ytihegdjdgklbgaa
set_option maxRecDepth 100000
open Go.RowKit Go.Joins Go.ChangeShapes Go.WideShapes Go.Deep
set_option linter.unusedVariables false

section
variable {H : Type} {enc : TypeId × Value → H} {w : World} {base : Nat}
theorem bytes_one {n : Nat} {v : Value} {y : DataW H × List MemPlace} (h : DataW.trod enc Try.prog w base (fun _ => true) true n 43 [v] = some y) : ∃ A m d l, v = .slice A m d ∧ Rb w A m d l := by
  rcases open_ints Try.underlying43 Try.underlying5 (by kernel_rfl) h with ⟨hcs, _⟩ | ⟨x, l, c, zs, hcs, _, hl, hm, hz, _, hcell, hwz⟩
  · exact ⟨none, 0, 0, [], by simpa using hcs, Rb.nil_ _⟩
  · obtain ⟨l, hr⟩ := rb_open hl hm (by simpa using hz) hcell hwz
    exact ⟨_, _, _, l, by simpa using hcs, hr⟩
theorem told_open {fuel : Nat} {v : Value} {x : DataW H × List MemPlace} (h : DataW.trod enc Try.prog w base (fun _ => true) true fuel 48 [v] = some x) :
    ∃ A n c ts, v = .slice A n c ∧ Rt w A n c ts := by
  rcases open_slice_cells Try.underlying48 Try.underlying51 (by kernel_rfl) (by kernel_rfl) h with h0 | ⟨a, len, cap, m, hcs, hl, hm, hmm, hi⟩
  · exact ⟨none, 0, 0, [], by simpa using h0, Rt.nil_ w⟩
  · have hmc : m = cap := by rw [hmm]; simp
    subst hmc
    have hp : ∀ i, i < len → ∃ ht : HdT × ToldT, Told1 w ht.1 ht.2 ∧ ∀ j (hj : j < 3), w.cell? (a.add (i * 3 + j)) = (tcells ht.1)[j]? := by
      intro i hlt
      obtain ⟨n', hf⟩ := hi i (by omega)
      obtain ⟨v0, y0, c0, t0⟩ := hf 0 _ rfl
      obtain ⟨v1, y1, c1, t1⟩ := hf 1 _ rfl
      obtain ⟨v2, y2, c2, t2⟩ := hf 2 _ rfl
      obtain ⟨A0, n0, d0, ps, rfl, hr⟩ := press_open t0
      obtain ⟨z, rfl, _⟩ := int_one t1
      obtain ⟨B, m1, d1, g, rfl, hg⟩ := bytes_one t2
      refine ⟨(((A0, n0, d0), z, (B, m1, d1)), (ps, z, g)), ⟨hr, rfl, hg⟩, fun j hj => ?_⟩
      have hc : j = 0 ∨ j = 1 ∨ j = 2 := by omega
      rcases hc with rfl | rfl | rfl
      · exact c0
      · exact c1
      · exact c2
    obtain ⟨l, hll, hlq⟩ := pick_list len hp
    refine ⟨some a, len, m, l.map (·.2), by simpa using hcs, l.map (·.1), ⟨by rw [tcs_len]; simp [hll], hl, hm, fun hn => ?_⟩, by simp, fun i hd t hh ht => ?_⟩
    · have h00 := (hlq 0 (by omega)).2 0 (by decide)
      obtain ⟨b, o, sp⟩ := a
      obtain rfl : sp = none := by
        have h01 : w.cell? ((⟨b, o, sp⟩ : Addr).add 0) = some (hdr (l[0]'(by omega)).1.1) := by simpa [tcells] using h00
        simpa [Addr.add] using World.cell?_spot h01
      refine ⟨b, o, rfl, fun j u hu => ?_⟩
      have hj : j < l.length * 3 := by
        have := (List.getElem?_eq_some_iff.1 hu).1
        rw [tcs_len] at this
        simpa using this
      have hq := (hlq (j / 3) (by omega)).2 (j % 3) (by omega)
      have hg := tcs_get (l.map (·.1)) (j / 3) (j % 3) (by simp; omega) (by omega)
      rw [show j / 3 * 3 + j % 3 = j by omega] at hq hg
      rw [hu, List.getElem_map] at hg
      rw [Addr.add_lit] at hq
      rw [hq, ← hg]
    · rw [List.getElem?_map, Option.map_eq_some_iff] at hh ht
      obtain ⟨p, hp1, rfl⟩ := hh
      obtain ⟨p', hp2, rfl⟩ := ht
      rw [hp1] at hp2
      obtain rfl := Option.some.inj hp2
      obtain ⟨hlt, rfl⟩ := List.getElem?_eq_some_iff.1 hp1
      exact (hlq i hlt).1
end
end Go.Proofs.Ytihegdjdgklbgaa
