/- Small facts for the rows' steps: what an argument that came in reads as, in this seat's own words. -/
import Derived.Test.YtdhmmhbmgobibaaKit
import Derived.ProofKit
namespace Go.Proofs.Ytdhmmhbmgobibaa
open Go.RowKit

theorem bd_u8 {n : Int} (h : (Lit.int .u8 n).wf = true) : 0 ≤ n ∧ n < 256 := by
  simp [Lit.wf, IntKind.min, IntKind.max, IntKind.bits, IntKind.signed] at h; omega
theorem bd_u32 {n : Int} (h : (Lit.int .u32 n).wf = true) : 0 ≤ n ∧ n < 4294967296 := by
  simp [Lit.wf, IntKind.min, IntKind.max, IntKind.bits, IntKind.signed] at h; omega
theorem bd_i32 {n : Int} (h : (Lit.int .i32 n).wf = true) : -2147483648 ≤ n ∧ n ≤ 2147483647 := by
  simp [Lit.wf, IntKind.min, IntKind.max, IntKind.bits, IntKind.signed] at h; omega
theorem bd_i64 {n : Int} (h : (Lit.int .i64 n).wf = true) : -9223372036854775808 ≤ n ∧ n ≤ 9223372036854775807 := by
  simp [Lit.wf, IntKind.min, IntKind.max, IntKind.bits, IntKind.signed] at h; omega

/-- A slice of integers that came in. -/
def Ri (w : World) (k : IntKind) (A : Option Addr) (n c : Nat) (l : List Int) : Prop := Rd w 1 A n c (l.map (Value.int k)) ∧ ∀ z ∈ l, (Lit.int k z).wf = true
theorem Ri.nil_ (w : World) (k : IntKind) : Ri w k none 0 0 [] := ⟨Rd.nil_ w 1, by simp⟩

theorem rd_open {w : World} {k : IntKind} {x : Addr} {len cap : Nat} {zs : List Int} (hl : len ≤ cap) (hm : cap ≤ maxLen) (hz : zs.length = cap)
    (hcell : ∀ i, i < zs.length → w.cell? (x.add i) = some (.int k (zs.getD i 0))) : Rd w 1 (some x) len cap ((zs.take len).map (Value.int k)) := by
  refine ⟨by simp; omega, hl, hm, fun hn => ?_⟩
  obtain ⟨b, o, sp⟩ := x
  have hc := hcell 0 (by omega)
  obtain rfl : sp = none := by simpa [Addr.add] using World.cell?_spot hc
  refine ⟨b, o, rfl, fun j u hu => ?_⟩
  simp only [List.getElem?_map, List.getElem?_take, Option.map_eq_some_iff] at hu
  obtain ⟨z, hz2, rfl⟩ := hu
  split at hz2
  · rename_i hj
    have := hcell j (by omega)
    rw [Addr.add_lit] at this
    rw [this, List.getD, hz2]
    rfl
  · cases hz2
theorem ri_open {w : World} {k : IntKind} {x : Addr} {len cap : Nat} {zs : List Int} (hl : len ≤ cap) (hm : cap ≤ maxLen) (hz : zs.length = cap)
    (hcell : ∀ i, i < zs.length → w.cell? (x.add i) = some (.int k (zs.getD i 0))) (hwz : ∀ n ∈ zs, (Lit.int k n).wf = true) : ∃ l, Ri w k (some x) len cap l :=
  ⟨zs.take len, rd_open hl hm hz hcell, fun z h => hwz z (List.mem_of_mem_take h)⟩
theorem rb_open {w : World} {x : Addr} {len cap : Nat} {zs : List Int} (hl : len ≤ cap) (hm : cap ≤ maxLen) (hz : zs.length = cap)
    (hcell : ∀ i, i < zs.length → w.cell? (x.add i) = some (.int .u8 (zs.getD i 0))) (hwz : ∀ n ∈ zs, (Lit.int .u8 n).wf = true) : ∃ l, Rb w (some x) len cap l := by
  refine ⟨(zs.take len).map fun z => UInt8.ofNat z.toNat, Rb.of (rd_open hl hm hz hcell) ?_⟩
  rw [bcs, List.map_map]
  refine List.map_congr_left fun z h => ?_
  have hb := bd_u8 (hwz z (List.mem_of_mem_take h))
  have : (UInt8.ofNat z.toNat).toNat = z.toNat := by simp [UInt8.toNat_ofNat']; omega
  simp only [Function.comp, this]
  congr 1
  omega
end Go.Proofs.Ytdhmmhbmgobibaa
