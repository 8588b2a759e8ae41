/- Law 1's own 'begun' and 'Cut'. -/
import Derived.Test.YtmlmeikfgbkhhaaRuneA
import Derived.Test.YtmlmeikfgbkhhaaRuneN
namespace Go.Proofs.Ytmlmeikfgbkhhaa
open Go.RowKit

theorem valid_is (w : World) (l : List UInt8) (hl : l.length ≤ 1099511627776) {b : Bool} (hb : goodL l = b) : Calls Try.prog 14 #[.string (bs l)] w fun e w' => e = .returned (.bool b) ∧ Ext w w' := hb ▸ valid_any w l hl
theorem title_is (w : World) (l : List UInt8) (hl : l.length ≤ 1099511627776) {b : Bool} (hb : titleL l = b) : Calls Try.prog 17 #[.string (bs l)] w fun e w' => e = .returned (.bool b) ∧ Ext w w' := hb ▸ title_any w l hl
theorem count_is (w : World) (l : List UInt8) (hl : l.length ≤ 1099511627776) {n : Int} (hb : ((rs l).length : Int) = n) : Calls Try.prog 15 #[.string (bs l)] w fun e w' => e = .returned (.int .i64 n) ∧ Ext w w' := hb ▸ count_any w l hl
theorem at_is (w : World) (l : List UInt8) (hl : l.length ≤ 1099511627776) (n : Int) (h0 : -9223372036854775808 ≤ n) (h1 : n ≤ 9223372036854775807) {r : Int} (hb : (atL l n : Int) = r) :
    Calls Try.prog 16 #[.string (bs l), .int .i64 n] w fun e w' => e = .returned (.int .i32 r) ∧ Ext w w' := hb ▸ at_any w l hl n h0 h1
theorem number_is (w : World) (l : List UInt8) (hl : l.length ≤ 1099511627776) {o : Option Int} (hb : numL l = o) : Calls Try.prog 21 #[.string (bs l)] w (NumOf w o) := hb ▸ number_any w l hl
theorem words_is (w : World) (l : List UInt8) (hl : l.length ≤ 1099511627776) {ws : List (List UInt8)} (hb : wordsL l = ws) :
    Calls Try.prog 19 #[.string (bs l)] w fun r w' => ∃ B d base, r = .returned (.slice B ws.length d) ∧ w.heap.size ≤ base ∧ Own w' base 9 1 B ws.length d (scs ws) ∧ Ext w w' := hb ▸ words_any w l hl
theorem word_at {w : World} {base : Nat} {e : TypeId} {B : Option Addr} {n d : Nat} {xs : List (List UInt8)} (h : Own w base e 1 B n d (scs xs)) {k : Nat} (hk : k < xs.length) :
    ∃ b o, B = some ⟨b, o, none⟩ ∧ w.cell? ⟨b, o + k, none⟩ = some (.string (bs xs[k])) := by
  have hn : n = xs.length := by have := h.rd.1; rw [scs_length] at this; omega
  obtain ⟨b, o, e1, u, hu, hc⟩ := h.rd.at_ (k := k) (by omega)
  refine ⟨b, o, e1, ?_⟩
  unfold scs at hu
  rw [List.getElem?_map, List.getElem?_eq_getElem hk] at hu
  rw [hc, ← hu]
  rfl
theorem b_at1 : atL [97, 195, 169] 1 = 233 := by unfold atL; rw [if_pos (by decide)]; rfl
theorem b_at2 : atL [97] 5 = 0 := by unfold atL; rw [if_pos (by decide)]; rfl
set_option maxRecDepth 100000 in
set_option maxHeartbeats 2000000 in
theorem begun_any (w : World) : Calls Try.prog 11 #[] w (Yes w) := by
  go_enter Try.func11, Try.ntmps11
  go_wp2_with fail
  refine (words_is w [32, 97, 32, 32, 98, 99, 9] (by decide) (ws := [[97], [98, 99]]) (by kernel_rfl)).mono ?_
  rintro e w1 ⟨B, d, base, rfl, hbase, ho, e1⟩
  go_wp2_with fail
  refine (number_is w1 [45, 49, 50] (by decide) (o := some (-12)) (by kernel_rfl)).mono ?_
  rintro e w2 ⟨rfl, e2⟩
  go_wp2_with fail
  refine (number_is w2 [48, 49, 50] (by decide) (o := none) (by kernel_rfl)).mono ?_
  rintro e w3 ⟨rfl, f3⟩
  have e3 := e2.trans f3
  clear f3 e2
  go_wp2_with fail
  refine (valid_is w3 [195, 169] (by decide) (b := true) (by kernel_rfl)).mono ?_
  rintro e w4 ⟨rfl, f4⟩
  have e4 := e3.trans f4
  clear f4 e3
  go_wp2_with fail
  refine (valid_is w4 [255] (by decide) (b := false) (by kernel_rfl)).mono ?_
  rintro e w5 ⟨rfl, f5⟩
  have e5 := e4.trans f5
  clear f5 e4
  go_wp2_with fail
  refine (count_is w5 [97, 195, 169, 255] (by decide) (n := 3) (by kernel_rfl)).mono ?_
  rintro e w6 ⟨rfl, f6⟩
  have e6 := e5.trans f6
  clear f6 e5
  go_wp2_with fail
  refine (at_is w6 [97, 195, 169] (by decide) 1 (by decide) (by decide) (r := 233) (by rw [b_at1]; rfl)).mono ?_
  rintro e w7 ⟨rfl, f7⟩
  have e7 := e6.trans f7
  clear f7 e6
  go_wp2_with fail
  refine (at_is w7 [97] (by decide) 5 (by decide) (by decide) (r := 0) (by rw [b_at2]; rfl)).mono ?_
  rintro e w8 ⟨rfl, f8⟩
  have e8 := e7.trans f8
  clear f8 e7
  go_wp2_with fail
  refine (title_is w8 [116] (by decide) (b := true) (by kernel_rfl)).mono ?_
  rintro e w9 ⟨rfl, f9⟩
  have e9 := e8.trans f9
  clear f9 e8
  go_wp2_with fail
  refine (title_is w9 [] (by decide) (b := false) (by kernel_rfl)).mono ?_
  rintro e w10 ⟨rfl, f10⟩
  have e10 := e9.trans f10
  clear f10 e9
  obtain ⟨b, o, rfl, hc⟩ := word_at (ho.ext e10) (k := 1) (by decide)
  have hc' : w10.cell? ⟨b, o + 1, none⟩ = some (.string (bs [98, 99])) := hc
  have e' := e1.trans e10
  clear hc
  go_wp2_with fail
  go_ret
  exact ⟨rfl, e'⟩
end Go.Proofs.Ytmlmeikfgbkhhaa
