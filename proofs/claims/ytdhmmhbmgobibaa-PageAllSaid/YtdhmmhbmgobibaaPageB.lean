/- Law 10's own 'begun', and the law PageNone. -/
import Derived.Test.YtdhmmhbmgobibaaPageW3
namespace Go.Proofs.Ytdhmmhbmgobibaa
open Go.RowKit

section
variable {w : World} {b g n : Nat} {rf : Nat → Int} {vs : Nat → Nat → Int}
theorem get_is (h : Room w b g n rf vs) {pg : Int} {k : Nat} (hf : Found n rf pg k) {i : Nat} (hi : i < 8) {x : Int} (hx : vs k i = x) :
    Calls Try.prog 16 #[.pointer (some ⟨b, 0, none⟩), .int .i64 pg, .int .i64 (i : Nat)] w fun e w' => e = .returned (.tuple #[.int .i32 x, .bool true]) ∧ w = w' := hx ▸ get_yes h hf hi
theorem refs_is (h : Room w b g n rf vs) {pg : Int} {k : Nat} (hf : Found n rf pg k) {x : Int} (hx : rf k = x) :
    Calls Try.prog 18 #[.pointer (some ⟨b, 0, none⟩), .int .i64 pg] w fun e w' => e = .returned (.int .i64 x) ∧ w = w' := hx ▸ refs_yes h hf
theorem used_is (h : Room w b g n rf vs) {x : Nat} (hx : used n rf = x) :
    Calls Try.prog 17 #[.pointer (some ⟨b, 0, none⟩)] w fun e w' => e = .returned (.int .i64 (x : Nat)) ∧ Ext w w' := hx ▸ used_any h
theorem Ext.room {w a b : World} (h : Ext w a) {g : Nat} (hg : a.grownBy b (some g)) (hB : w.heap.size ≤ g) : Ext w b :=
  Below.trans h (below_of_grown hg h.size fun k hk => by cases hk; exact hB)
end

set_option maxRecDepth 100000 in
set_option maxHeartbeats 2000000 in
theorem begun_any (w : World) : Calls Try.prog 8 #[] w (Yes w) := by
  go_enter Try.func8, Try.ntmps8
  go_wp2_with fail
  refine (new_any w 2 2 (.inr rfl) (by omega)).mono ?_
  rintro e w1 ⟨b, g, rfl, hb, hg, e1, hr1⟩
  go_wp2_with fail
  refine (take_yes hr1 (k := 0) (by decide) rfl (by omega)).mono ?_
  rintro e w2 ⟨rfl, hr2, g2⟩
  have e2 := e1.room g2 hg
  clear hr1 g2 e1
  go_wp2_with fail
  refine (set_yes hr2 (pg := 1) (k := 0) ⟨by decide, rfl, by decide⟩ (by decide) (i := 3) (by decide) 7).mono ?_
  rintro e w3 ⟨rfl, hr3, g3⟩
  have e3 := e2.room g3 hg
  clear hr2 g3 e2
  go_wp2_with fail
  refine (copy_yes hr3 (pg := 1) (k := 0) ⟨by decide, rfl, by decide⟩ (j := 1) (by decide) rfl (by decide)).mono ?_
  rintro e w4 ⟨rfl, hr4, g4⟩
  have e4 := e3.room g4 hg
  clear hr3 g4 e3
  go_wp2_with fail
  refine (take_no hr4 (by decide)).mono ?_
  rintro e w5 ⟨rfl, hr5, g5⟩
  have e5 := e4.room g5 hg
  clear hr4 g5 e4
  go_wp2_with fail
  refine (get_is hr5 (pg := 2) (k := 1) ⟨by decide, rfl, by decide⟩ (i := 3) (by decide) (x := 7) rfl).mono ?_
  rintro e w6 ⟨rfl, rfl⟩
  go_wp2_with fail
  refine (used_is hr5 (x := 2) (by decide)).mono ?_
  rintro e w6 ⟨rfl, e6⟩
  have hr6 := hr5.ext e6
  have e7 := e5.trans e6
  clear hr5 e6 e5
  go_wp2_with fail
  refine (hold_yes hr6 (pg := 1) (k := 0) ⟨by decide, rfl, by decide⟩ (by decide) (by decide)).mono ?_
  rintro e w7 ⟨rfl, hr7, g7⟩
  have e8 := e7.room g7 hg
  clear hr6 g7 e7
  go_wp2_with fail
  refine (refs_is hr7 (pg := 1) (k := 0) ⟨by decide, rfl, by decide⟩ (x := 2) rfl).mono ?_
  rintro e w8 ⟨rfl, rfl⟩
  go_wp2_with fail
  refine (set_no hr7 (pg := 1) (by decide) (by decide) 0 1 (.inr ⟨0, ⟨by decide, rfl, by decide⟩, .inr ⟨by decide, by decide, by decide⟩⟩)).mono ?_
  rintro e w9 ⟨rfl, hr9, g9⟩
  have e9 := e8.room g9 hg
  clear hr7 g9 e8
  go_wp2_with fail
  refine (drop_yes hr9 (pg := 2) (k := 1) ⟨by decide, rfl, by decide⟩ (by decide) (by decide)).mono ?_
  rintro e w10 ⟨rfl, hr10, g10⟩
  have e10 := e9.room g10 hg
  clear hr9 g10 e9
  go_wp2_with fail
  refine (used_is hr10 (x := 1) (by decide)).mono ?_
  rintro e w11 ⟨rfl, e11⟩
  go_wp2_with fail
  go_ret
  exact ⟨rfl, e10.trans e11⟩

set_option maxRecDepth 100000 in
set_option maxHeartbeats 2000000 in
theorem none_walk (w : World) : Calls Try.prog 5 #[] w (Yes w) := by
  go_enter Try.func5, Try.ntmps5
  go_wp2_with (first | (go_at_call 8; refine (begun_any _).mono ?_; rintro e w1 ⟨rfl, e1⟩) | go_in)
  go_ret
  exact ⟨rfl, e1⟩
end Go.Proofs.Ytdhmmhbmgobibaa
