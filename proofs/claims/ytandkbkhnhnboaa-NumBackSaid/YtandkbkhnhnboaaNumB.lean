/- The law's own 'begun': it answers true, and turns nothing that was there. -/
import Derived.Test.YtandkbkhnhnboaaNumW4
namespace Go.Proofs.Ytandkbkhnhnboaa
open Go.RowKit

set_option maxRecDepth 100000 in
set_option maxHeartbeats 1000000 in
theorem begun_any (w : World) : Calls Try.prog 9 #[] w (Yes w) := by
  obtain ⟨i, hi, hz0, hz1, hz2⟩ := info_parts info_u8
  go_enter Try.func9, Try.ntmps9
  go_wp2_with fail
  refine (get_any _ _ _ [128, 1] _ (Rb.of (Rd.made w 5 1 _ 2 rfl (by decide)) rfl)).mono ?_
  rintro e w1 ⟨rfl, rfl⟩
  rw [show getL [128, 1] = (64, 2, 0) from by decide]
  go_wp2_with fail
  refine (get_any _ _ _ [] _ (Rb.nil_ _)).mono ?_
  rintro e w1 ⟨rfl, rfl⟩
  rw [show getL [] = (0, 0, 2) from rfl]
  go_wp2_with fail
  refine (bytes_any (w.heap.size + 1) none 0 0 [] [97, 98] _ (by decide) (Own.nil_ _ _ _ _) (by omega) (by simp)).mono ?_
  rintro e w1 ⟨B, m, d, rfl, ho, hg, hw⟩
  have hm : m = 3 := by
    have := ho.len
    rw [show (bcs ([] ++ bytesL [97, 98])).length = 3 from by decide] at this
    omega
  subst hm
  have e1 : Ext w w1 := (Ext.alloc w _).trans (ext_of_grown hg)
  have hb1 : w.heap.size ≤ w1.heap.size := e1.size
  go_wp2_with (at_builtin; refine wpList_append_new _ rfl _ _ 22 rfl (w.heap.size + 1) 5 i (.int .u8 0) 1 1 Try.underlying22 hi hz0 hz1 hz2 rfl (by decide) B 3 d _ rfl ho 1 _ rfl rfl (by simp [Value.oneCell']) (by unfold maxLen; omega) (by omega) (by have := hg.size; simp at this; omega) ?_; intro B' d' w2 ho' hg' hw')
  refine (text_any _ _ _ (bytesL [97, 98] ++ [9]) _ (Rb.of ho'.rd rfl)).mono ?_
  rintro e w3 ⟨rfl, rfl⟩
  rw [show textL (bytesL [97, 98] ++ [9]) = ([97, 98], 3, 0) from by decide]
  have e2 : Ext w w2 := e1.own hg' fun k hk => by have := ho.blk_ge k hk; omega
  go_wp2_with fail
  refine (put_any w2.heap.size none 0 0 [] (-1) _ (by omega) (by omega) (Own.nil_ _ _ _ _) (by omega) (Nat.le_refl _)).mono ?_
  rintro e w3 ⟨B3, m3, d3, rfl, ho3, hg3, hw3⟩
  have hcv := run_string_of (P := Try.prog) w3 22 9 5 Try.underlying22 Try.underlying5 Try.underlying9 _ _ _ _ (Rb.of (l := [1]) ho3.rd rfl)
  have e3 : Ext w w3 := e2.trans (ext_of_grown hg3)
  go_wp2_with fail
  refine (four_any 258 _ (by decide)).mono ?_
  rintro e w4 ⟨B4, m4, d4, rfl, ho4, e4⟩
  have hcv4 := run_string_of (P := Try.prog) w4 22 9 5 Try.underlying22 Try.underlying5 Try.underlying9 _ _ _ _ (Rb.of (l := [0, 0, 1, 2]) ho4.rd rfl)
  go_wp2_with fail
  go_ret
  exact ⟨rfl, e3.trans e4⟩
end Go.Proofs.Ytandkbkhnhnboaa
