/- The walks of package num and its reference, third part. -/
import Derived.Test.YtbmgiidecidojaaDoorNumU
namespace Go.Proofs.YtbmgiidecidojaaDoor
open Go.RowKit

set_option maxHeartbeats 400000 in
theorem bytes_any (base : Nat) (A : Option Addr) (n c : Nat) (l s : List UInt8) (w : World) (hs : s.length ≤ 1099511627776)
    (hown : Own w base 5 1 A n c (bcs l)) (hn : n ≤ 1099511627776) (hb : base ≤ w.heap.size) :
    Calls Tryd.prog 44 #[.slice A n c, .string (bs s)] w (Appended w base 5 1 A (bcs (l ++ bytesL s))) := by
  obtain ⟨i, hi, hz0, hz1, hz2⟩ := info_parts info_u8
  have hsz := bs_size s
  go_enter Tryd.func44, Tryd.ntmps44
  go_wp2_with fail
  refine (put_any base A n c l s.length w (by omega) (by omega) hown hn hb).mono ?_
  rintro e w1 ⟨B, m, d, rfl, ho, hg, hw⟩
  have hm : m ≤ n + 10 := by
    have h1 := ho.len
    have h2 := hown.len
    have := putL_le (s.length : Int)
    simp [bcs_length] at h1 h2
    omega
  have hb1 : base ≤ w1.heap.size := Nat.le_trans hb hg.size
  clear hsz
  go_wp2_with (at_builtin; refine wpList_append_text _ rfl _ _ 51 9 rfl base 5 i Tryd.underlying51 Tryd.underlying9 hi hz0 hz1 hz2 B m d _ rfl ho s rfl (by unfold maxLen; omega) (by omega) hb1 ?_; intro B' d' w' ho' hg' hw')
  go_ret
  refine ⟨_, _, _, rfl, ?_, grown_went hg hw hg', hw.trans hg.size hw'⟩
  rw [bytesL, ← List.append_assoc, bcs_append]
  exact ho'
end Go.Proofs.YtbmgiidecidojaaDoor
