/- The walk of quintainlaw1.Cut. -/
import Derived.Test.YtbmgiidecidojaaDoorRows
import Derived.Test.YtbmgiidecidojaaDoorNumPlain
namespace Go.Proofs.YtbmgiidecidojaaDoor
open Go.RowKit

theorem bs_extractC (l : List UInt8) (k : Nat) : (bs l).extract 0 k = bs (l.take k) := by
  have h : ((bs l).extract 0 k).data.toList = l.take k := by rw [ByteArray.data_extract]; simp [bs]
  rw [← bs_of ((bs l).extract 0 k), h]

set_option maxHeartbeats 400000 in
theorem cut_any (l : List UInt8) (k : Nat) (w : World) (hl : l.length ≤ maxLen) :
    Calls Tryd.prog 10 #[.string (bs l), .int .i64 (k : Nat)] w fun e w' => e = .returned (.string (bs (l.take k))) ∧ w = w' := by
  unfold maxLen at hl
  have hs := bs_size l
  have _hl := hl
  by_cases h : k < l.length
  · have he := bs_extractC l k
    go_enter Tryd.func10, Tryd.ntmps10
    go_wp2_with fail
    go_ret
    exact ⟨rfl, rfl⟩
  · have hm : l.take k = l := List.take_of_length_le (by omega)
    have Hm := Lib.hid hm
    clear hm
    go_enter Tryd.func10, Tryd.ntmps10
    go_wp2_with fail
    go_ret
    exact ⟨by rw [Hm.out]; rfl, rfl⟩
end Go.Proofs.YtbmgiidecidojaaDoor
