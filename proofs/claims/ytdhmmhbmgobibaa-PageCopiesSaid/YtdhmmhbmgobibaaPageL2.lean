/- The walk of the law PageAgain. -/
import Derived.Test.YtdhmmhbmgobibaaPageL1
namespace Go.Proofs.Ytdhmmhbmgobibaa
open Go.RowKit

theorem used_all {n : Nat} {rf : Nat → Int} (h : ∀ k, k < n → 0 < rf k) : used n rf = n := by
  unfold used
  rw [List.countP_eq_length.mpr, List.length_range]
  intro k hk
  simpa using h k (List.mem_range.mp hk)

/-- The first j pages of n are taken. -/
def AgRel (w : World) (b g n : Nat) (i : Value) (wr : World) : Prop :=
  ∃ j : Nat, i = .int .i64 ((j : Int) + 1) ∧ j ≤ n ∧ (∃ vs, Room wr b g n (fun k => if k < j then 1 else 0) vs) ∧ Ext w wr
def AgRel2 (w : World) (b g n : Nat) (i : Value) (wr : World) : Prop :=
  ∃ j : Nat, i = .int .i64 j ∧ j ≤ n ∧ (∃ vs, Room wr b g n (fun _ => 1) vs) ∧ Ext w wr

set_option maxRecDepth 100000 in
set_option maxHeartbeats 2000000 in
theorem again_walk (w : World) (n : Int) (_n0 : -9223372036854775808 ≤ n) (_n1 : n ≤ 9223372036854775807) (v : Int) (_v0 : -2147483648 ≤ v) (_v1 : v ≤ 2147483647) :
    Calls Try.prog 4 #[.int .i64 n, .int .i32 v] w (Yes w) := by
  by_cases hn : n < 1 ∨ 50 < n
  · rcases hn with hn | hn
    all_goals
      go_enter Try.func4, Try.ntmps4
      go_wp2_with fail
      refine (begun_any w).mono ?_
      rintro e w1 ⟨rfl, e1⟩
      go_wp2_with fail
      go_ret
      exact ⟨rfl, e1⟩
  · obtain ⟨N, rfl⟩ := Int.eq_ofNat_of_zero_le (show 0 ≤ n by omega)
    have hN : N ≤ 50 := by omega
    have hN1 : 1 ≤ N := by omega
    clear hn _n0 _n1 _v0 _v1
    go_enter Try.func4, Try.ntmps4
    go_wp2_with fail
    refine (begun_any w).mono ?_
    rintro e w1 ⟨rfl, e1⟩
    go_wp2_with fail
    refine (new_any w1 N N (.inr rfl) (by omega)).mono ?_
    rintro e w2 ⟨b, g, rfl, hb, hg0, e2, hr2⟩
    have hg : w.heap.size ≤ g := Nat.le_trans e1.size hg0
    have e3 := e1.trans e2
    clear e1 e2 hg0
    go_wp2_with fail
    go_loopw [7] (fun i wr => AgRel w b g N i wr) (fun i _ => N + 1 - (intOf i).toNat)
    case atStart => exact ⟨0, rfl, Nat.zero_le _, ⟨_, Room.congr hr2 (fun k _ => rfl) (fun _ _ _ _ => rfl)⟩, e3⟩
    case round =>
      obtain ⟨j, rfl, hj, ⟨vs, hr⟩, e4⟩ := hrel
      by_cases hlt : j < N
      · go_wp2_with fail
        refine (take_yes hr (k := j) hlt (by simp) (by intro i hi; simp [hi])).mono ?_
        rintro e w6 ⟨rfl, hr6, g6⟩
        have e7 := e4.room g6 hg
        clear hr g6 e4
        have hset := set_yes hr6 (pg := (j : Int) + 1) (k := j) ⟨hlt, rfl, by simp [upd_same]⟩ (by simp [upd_same]) (i := (j + 1) % 8) (by omega) v
        have hmod : ((j : Int) + 1).tmod 8 = (((j + 1) % 8 : Nat) : Int) := by rw [Int.tmod_eq_emod_of_nonneg (by omega)]; omega
        have Hset := Lib.hid hset
        clear hset
        go_wp2_with fail
        refine Hset.out.mono ?_
        rintro e w8 ⟨rfl, hr8, g8⟩
        have e9 := e7.room g8 hg
        clear Hset hr6 g8 e7
        go_wp2_with fail
        go_roundw
        case rel =>
          refine ⟨j + 1, by go_num, hlt, ⟨_, Room.congr hr8 (fun k hk => ?_) (fun _ _ _ _ => rfl)⟩, e9⟩
          show (if k < j + 1 then (1 : Int) else 0) = if k = j then 1 else if k < j then 1 else 0
          repeat' split
          all_goals first | rfl | omega
        case measure => simp [intOf]; omega
      · obtain rfl : j = N := by omega
        have hr' : Room wr b g j (fun _ => 1) vs := Room.congr hr (fun k hk => by simp [hk]) (fun _ _ _ _ => rfl)
        clear hr
        go_wp2_with fail
        refine (take_no hr' (by intro _ _; decide)).mono ?_
        rintro e w6 ⟨rfl, hr6, g6⟩
        have e7 := e4.room g6 hg
        clear hr' g6 e4
        go_wp2_with fail
        go_loopw [12] (fun i wr => AgRel2 w b g j i wr) (fun i _ => (intOf i).toNat)
        case atStart => exact ⟨j, rfl, Nat.le_refl _, ⟨_, hr6⟩, e7⟩
        case round =>
          obtain ⟨m, rfl, hm, ⟨vs', hr8⟩, e8⟩ := hrel
          clear hr6
          by_cases hlt : 1 ≤ m
          · obtain ⟨m, rfl⟩ : ∃ k, m = k + 1 := ⟨m - 1, by omega⟩
            have hmj : m < j := by omega
            have hd := drop_yes hr8 (pg := ((m + 1 : Nat) : Int)) (k := m) ⟨hmj, by omega, by simp⟩ (by simp) (by simp)
            have Hd := Lib.hid hd
            clear hd
            go_wp2_with fail
            refine Hd.out.mono ?_
            rintro e w9 ⟨rfl, hr9, g9⟩
            have e10 := e8.room g9 hg
            clear Hd hr8 g9 e8
            have hr10 : Room w9 b g j (upd (fun _ => 1) m 0) vs' := Room.congr hr9 (fun _ _ => rfl) (fun _ _ _ _ => rfl)
            clear hr9
            have hd := drop_no hr10 (pg := ((m + 1 : Nat) : Int)) (by omega) (by omega) (by right; right; exact ⟨m, hmj, by omega, by simp [upd_same]⟩)
            have Hd := Lib.hid hd
            clear hd
            go_wp2_with fail
            refine Hd.out.mono ?_
            rintro e w10 ⟨rfl, hr11, g11⟩
            have e12 := e10.room g11 hg
            clear Hd hr10 g11 e10
            go_wp2_with fail
            refine (take_yes hr11 (k := m) hmj (by simp [upd_same]) (by intro i hi; rw [upd_other _ _ (by omega)]; decide)).mono ?_
            rintro e w13 ⟨rfl, hr13, g13⟩
            have e14 := e12.room g13 hg
            clear hr11 g13 e12
            have hget := get_is hr13 (pg := (m : Int) + 1) (k := m) ⟨hmj, rfl, by simp [upd_same]⟩ (i := (m + 1) % 8) (by omega) (x := 0) (by simp [upd_same])
            have hmod : (((m + 1 : Nat) : Int)).tmod 8 = (((m + 1) % 8 : Nat) : Int) := by rw [Int.tmod_eq_emod_of_nonneg (by omega)]; omega
            have Hget := Lib.hid hget
            clear hget
            go_wp2_with fail
            refine Hget.out.mono ?_
            rintro e w15 ⟨rfl, rfl⟩
            clear Hget
            go_wp2_with fail
            go_roundw
            case rel =>
              refine ⟨m, by go_num, by omega, ⟨_, Room.congr hr13 (fun k hk => ?_) (fun _ _ _ _ => rfl)⟩, e14⟩
              show (1 : Int) = if k = m then 1 else if k = m then 0 else 1
              repeat' split
              all_goals first | rfl | omega
            case measure => simp [intOf]
          · obtain rfl : m = 0 := by omega
            go_wp2_with fail
            refine (used_is hr8 (x := j) (used_all (by intro _ _; decide))).mono ?_
            rintro e w9 ⟨rfl, e9⟩
            go_wp2_with fail
            go_ret
            exact ⟨by simp, e8.trans e9⟩
end Go.Proofs.Ytdhmmhbmgobibaa
