/- The walks of the laws NumAny, NumLong, NumFour, NumCut. -/
import Derived.Test.YtandkbkhnhnboaaNumB
namespace Go.Proofs.Ytandkbkhnhnboaa
open Go.RowKit

set_option maxRecDepth 100000 in
set_option maxHeartbeats 1000000 in
theorem any_walk (w : World) (A : Option Addr) (n c : Nat) (l : List UInt8) (hr : Rb w A n c l) :
    Calls Try.prog 4 #[.slice A n c] w (Yes w) := by
  go_enter Try.func4, Try.ntmps4
  go_wp2_with fail
  refine (begun_any w).mono ?_
  rintro e w1 ⟨rfl, e1⟩
  go_wp2_with fail
  refine (short_any A n c 60 w1 hr.max).mono ?_
  rintro e w2 ⟨rfl, rfl⟩
  have hr1 : Rb w1 A (min n 60) c (l.take (min n 60)) := (hr.ext e1).take (by omega)
  go_wp2_with fail
  refine (get_any _ _ _ _ _ hr1).mono ?_
  rintro e w2 ⟨rfl, rfl⟩
  go_wp2_with fail
  refine (rget_any _ _ _ _ _ hr1).mono ?_
  rintro e w2 ⟨rfl, rfl⟩
  go_wp2_with fail
  refine (text_any _ _ _ _ _ hr1).mono ?_
  rintro e w2 ⟨rfl, rfl⟩
  go_wp2_with fail
  refine (rtext_any _ _ _ _ _ hr1).mono ?_
  rintro e w2 ⟨rfl, rfl⟩
  go_wp2_with fail
  go_ret
  exact ⟨rfl, e1⟩
end Go.Proofs.Ytandkbkhnhnboaa
