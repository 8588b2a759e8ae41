/- The walks of the laws PageShared, PageAgain. -/
import Derived.Test.YtdhmmhbmgobibaaPageB
namespace Go.Proofs.Ytdhmmhbmgobibaa
open Go.RowKit

theorem upd_upd {α : Type} (f : Nat → α) (k : Nat) (x y : α) (j : Nat) : upd f k y j = upd (upd f k x) k y j := by
  unfold upd; split <;> rfl

/-- One page of three is held x times. -/
def ShRel (w : World) (b g : Nat) (N : Nat) (vs : Nat → Nat → Int) (up : Bool) (i : Value) (wr : World) : Prop :=
  ∃ j : Nat, i = .int .i64 j ∧ j ≤ N ∧ Room wr b g 3 (upd (fun _ => 0) 0 (if up then 1 + (j : Int) else 1 + (N : Int) - j)) vs ∧ Ext w wr

set_option maxRecDepth 100000 in
set_option maxHeartbeats 2000000 in
theorem shared_walk (w : World) (n : Int) (_n0 : -9223372036854775808 ≤ n) (_n1 : n ≤ 9223372036854775807) (v : Int) (_v0 : -2147483648 ≤ v) (_v1 : v ≤ 2147483647) :
    Calls Try.prog 6 #[.int .i64 n, .int .i32 v] w (Yes w) := by
  by_cases hn : n < 0 ∨ 20 < n
  · rcases hn with hn | hn
    all_goals
      go_enter Try.func6, Try.ntmps6
      go_wp2_with fail
      refine (begun_any w).mono ?_
      rintro e w1 ⟨rfl, e1⟩
      go_wp2_with fail
      go_ret
      exact ⟨rfl, e1⟩
  · obtain ⟨N, rfl⟩ := Int.eq_ofNat_of_zero_le (show 0 ≤ n by omega)
    have hN : N ≤ 20 := by omega
    clear hn _n0 _n1 _v0 _v1
    go_enter Try.func6, Try.ntmps6
    go_wp2_with fail
    refine (begun_any w).mono ?_
    rintro e w1 ⟨rfl, e1⟩
    go_wp2_with fail
    refine (new_any w1 3 3 (.inr rfl) (by omega)).mono ?_
    rintro e w2 ⟨b, g, rfl, hb, hg0, e2, hr2⟩
    have hg : w.heap.size ≤ g := Nat.le_trans e1.size hg0
    have e3 := e1.trans e2
    clear e1 e2 hg0
    go_wp2_with fail
    refine (take_yes hr2 (k := 0) (by decide) rfl (by omega)).mono ?_
    rintro e w3 ⟨rfl, hr3, g3⟩
    have e4 := e3.room g3 hg
    clear hr2 g3 e3
    go_wp2_with fail
    refine (set_yes hr3 (pg := 1) (k := 0) ⟨by decide, rfl, by decide⟩ (by decide) (i := 0) (by decide) 1).mono ?_
    rintro e w4 ⟨rfl, hr4, g4⟩
    have e5 := e4.room g4 hg
    clear hr3 g4 e4
    obtain ⟨vs1, hvs1, hr5⟩ : ∃ vs1 : Nat → Nat → Int, (vs1 0 0 = 1) ∧ Room w4 b g 3 (upd (fun _ => 0) 0 1) vs1 := ⟨_, rfl, hr4⟩
    clear hr4
    go_wp2_with fail
    go_loopw [9] (fun i wr => ShRel w b g N vs1 true i wr) (fun i _ => N - (intOf i).toNat)
    case atStart => exact ⟨0, rfl, Nat.zero_le _, hr5, e5⟩
    case round =>
      obtain ⟨j, rfl, hj, hr, e6⟩ := hrel
      simp only [if_true] at hr
      by_cases hlt : j < N
      · go_wp2_with fail
        refine (hold_yes hr (pg := 1) (k := 0) ⟨by decide, rfl, by rw [upd_same]; omega⟩ (by rw [upd_same]; omega) (by rw [upd_same]; omega)).mono ?_
        rintro e w6 ⟨rfl, hr6, g6⟩
        go_wp2_with fail
        go_roundw
        case rel =>
          refine ⟨j + 1, by go_num, hlt, Room.congr hr6 (fun k _ => ?_) (fun _ _ _ _ => rfl), e6.room g6 hg⟩
          simp only [if_true, upd_same]
          rw [← upd_upd]
          congr 1; try omega
        case measure => simp [intOf]; omega
      · obtain rfl : j = N := by omega
        have hsa : Calls Try.prog 14 #[.pointer (some ⟨b, 0, none⟩), .int .i64 1, .int .i64 0, .int .i32 v] wr (Left wr b g 3 (upd (fun _ => 0) 0 (1 + (j : Int))) (upd vs1 0 (upd (vs1 0) 0 (if j = 0 then v else 1))) (.bool (decide (j = 0)))) := by
          by_cases h0 : j = 0
          · subst h0
            exact set_yes hr (pg := 1) (k := 0) ⟨by decide, rfl, by rw [upd_same]; decide⟩ (by rw [upd_same]; decide) (i := 0) (by decide) v
          · rw [if_neg h0, decide_eq_false h0]
            refine (set_no hr (pg := 1) (by decide) (by decide) 0 v (.inr ⟨0, ⟨by decide, rfl, by rw [upd_same]; omega⟩, .inr ⟨by decide, by decide, by rw [upd_same]; omega⟩⟩)).mono ?_
            rintro e w' ⟨rfl, hr', g'⟩
            refine ⟨rfl, Room.congr hr' (fun _ _ => rfl) fun k i hk hi => ?_, g'⟩
            by_cases hk0 : k = 0
            · subst hk0
              rw [upd_same]
              by_cases hi0 : i = 0
              · subst hi0; rw [upd_same, hvs1]
              · rw [upd_other _ _ hi0]
            · rw [upd_other _ _ hk0]
        have Hsa := Lib.hid hsa
        clear hsa
        go_wp2_with fail
        refine Hsa.out.mono ?_
        rintro e w6 ⟨rfl, hr6, g6⟩
        have e7 := e6.room g6 hg
        clear Hsa hr g6 e6
        obtain ⟨vs2, hvs2, hr7⟩ : ∃ vs2 : Nat → Nat → Int, (vs2 0 0 = if j = 0 then v else 1) ∧ Room w6 b g 3 (upd (fun _ => 0) 0 (1 + (j : Int))) vs2 := ⟨_, rfl, hr6⟩
        clear hr6
        go_wp2_with fail
        go_loopw [11] (fun i wr => ShRel w b g j vs2 false i wr) (fun i _ => j - (intOf i).toNat)
        case atStart => exact ⟨0, rfl, Nat.zero_le _, Room.congr hr7 (fun k _ => by simp) (fun _ _ _ _ => rfl), e7⟩
        case round =>
          obtain ⟨m, rfl, hm, hr8, e8⟩ := hrel
          simp only [Bool.false_eq_true, if_false] at hr8
          by_cases hlt : m < j
          · go_wp2_with fail
            refine (drop_yes hr8 (pg := 1) (k := 0) ⟨by decide, rfl, by rw [upd_same]; omega⟩ (by rw [upd_same]; omega) (by rw [upd_same]; omega)).mono ?_
            rintro e w9 ⟨rfl, hr9, g9⟩
            go_wp2_with fail
            go_roundw
            case rel =>
              refine ⟨m + 1, by go_num, hlt, Room.congr hr9 (fun k _ => ?_) (fun _ _ _ _ => rfl), e8.room g9 hg⟩
              simp only [Bool.false_eq_true, if_false, upd_same]
              rw [← upd_upd]
              congr 1; omega
            case measure => simp [intOf]; omega
          · obtain rfl : m = j := by omega
            have hr8' : Room wr b g 3 (upd (fun _ => 0) 0 1) vs2 := Room.congr hr8 (fun k _ => by congr 1; omega) (fun _ _ _ _ => rfl)
            clear hr8 hr7
            go_wp2_with fail
            refine (get_is hr8' (pg := 1) (k := 0) ⟨by decide, rfl, by decide⟩ (i := 0) (by decide) hvs2).mono ?_
            rintro e w9 ⟨rfl, rfl⟩
            have Hset := Lib.hid (set_yes hr8' (pg := 1) (k := 0) ⟨by decide, rfl, by decide⟩ (by decide) (i := 1) (by decide) v)
            clear hr8'
            by_cases hm0 : m = 0
            all_goals
              first | subst hm0 | skip
              first | rw [if_neg hm0] at hvs2 | skip
              go_wp2_with fail
              refine Hset.out.mono ?_
              rintro e w10 ⟨rfl, hr10, g10⟩
              have e10 := e8.room g10 hg
              go_wp2_with fail
              refine (refs_is hr10 (pg := 1) (k := 0) ⟨by decide, rfl, by decide⟩ (x := 1) rfl).mono ?_
              rintro e w11 ⟨rfl, rfl⟩
              go_wp2_with fail
              go_ret
              exact ⟨by first | rfl | simp [hm0], e10⟩
end Go.Proofs.Ytdhmmhbmgobibaa
