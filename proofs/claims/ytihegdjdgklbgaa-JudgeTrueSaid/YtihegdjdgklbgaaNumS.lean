/- The walk of quintainlaw1.Short. -/
import Derived.Test.YtihegdjdgklbgaaRows
import Derived.Test.YtihegdjdgklbgaaNumPlain
namespace Go.Proofs.Ytihegdjdgklbgaa
set_option maxRecDepth 100000
open Go.RowKit

set_option maxHeartbeats 400000 in
theorem short_any (A : Option Addr) (n c k : Nat) (w : World) (hn : n ≤ c ∧ c ≤ maxLen) :
    Calls Try.prog 29 #[.slice A n c, .int .i64 (k : Nat)] w fun e w' => e = .returned (.slice A (min n k) c) ∧ w = w' := by
  unfold maxLen at hn
  by_cases h : k < n
  · have hm : min n k = k := by omega
    have Hm := Lib.hid hm
    clear hm
    go_enter Try.func29, Try.ntmps29
    go_wp2_with fail
    go_ret
    exact ⟨by rw [Hm.out]; rfl, rfl⟩
  · have hm : min n k = n := by omega
    have Hm := Lib.hid hm
    clear hm
    go_enter Try.func29, Try.ntmps29
    go_wp2_with fail
    go_ret
    exact ⟨by rw [Hm.out]; rfl, rfl⟩
end Go.Proofs.Ytihegdjdgklbgaa
