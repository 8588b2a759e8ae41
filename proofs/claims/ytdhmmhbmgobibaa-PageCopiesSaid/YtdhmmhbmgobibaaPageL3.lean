/- The walk of the law PageCopies. -/
import Derived.Test.YtdhmmhbmgobibaaPageL2
import Derived.Test.YtdhmmhbmgobibaaRow
namespace Go.Proofs.Ytdhmmhbmgobibaa
open Go.RowKit

theorem Ri.len {w : World} {k : IntKind} {A : Option Addr} {n c : Nat} {l : List Int} (h : Ri w k A n c l) : l.length = n := by simpa using h.1.1
theorem Ri.at_ {w : World} {k : IntKind} {A : Option Addr} {n c : Nat} {l : List Int} (h : Ri w k A n c l) {j : Nat} (hj : j < n) :
    ∃ b o, A = some ⟨b, o, none⟩ ∧ w.cell? ⟨b, o + j, none⟩ = some (.int k (l.getD j 0)) := by
  obtain ⟨b, o, e, u, hu, hc⟩ := h.1.at_ hj
  refine ⟨b, o, e, ?_⟩
  rw [List.getElem?_map] at hu
  have hl : j < l.length := by rw [h.len]; exact hj
  rw [List.getElem?_eq_getElem hl] at hu
  simp only [Option.map_some, Option.some.injEq] at hu
  rw [hc, ← hu, List.getD_eq_getElem?_getD, List.getElem?_eq_getElem hl]
  rfl
theorem Ri.ext {w w' : World} {k : IntKind} {A : Option Addr} {n c : Nat} {l : List Int} (h : Ri w k A n c l) (he : Ext w w') : Ri w' k A n c l := ⟨h.1.ext he, h.2⟩

theorem eight_mod {x : Int} : ∃ a : Nat, a < 8 ∧ (x.tmod 8 + 8).tmod 8 = a ∧ -7 ≤ x.tmod 8 ∧ x.tmod 8 ≤ 7 := by
  have h1 : -8 < x.tmod 8 := by
    have := Int.lt_tmod_of_pos x (show (0 : Int) < 8 by decide); omega
  have h2 : x.tmod 8 < 8 := Int.tmod_lt_of_pos x (by decide)
  rw [Int.tmod_eq_emod_of_nonneg (show 0 ≤ x.tmod 8 + 8 by omega)]
  exact ⟨((x.tmod 8 + 8) % 8).toNat, by omega, by omega, by omega, by omega⟩

def CpRel (w : World) (b g : Nat) (n : Nat) (l : List Int) (i : Value) (wr : World) : Prop :=
  ∃ j : Nat, i = .int .i64 j ∧ j ≤ 8 ∧ j ≤ n ∧ Room wr b g 4 (upd (fun _ => 0) 0 1) (fun k i => if k = 0 ∧ i < j then l.getD i 0 else 0) ∧ Ext w wr

set_option maxRecDepth 100000 in
set_option maxHeartbeats 2000000 in
theorem copies_walk (w : World) (A : Option Addr) (n c : Nat) (l : List Int) (hl : Ri w .i32 A n c l) (x : Int) (_x0 : -9223372036854775808 ≤ x) (_x1 : x ≤ 9223372036854775807) (v : Int) (_v0 : -2147483648 ≤ v) (_v1 : v ≤ 2147483647) :
    Calls Try.prog 7 #[.slice A n c, .int .i64 x, .int .i32 v] w (Yes w) := by
  obtain ⟨a, ha, hmod, hm1, hm2⟩ := eight_mod (x := x)
  have hlen := hl.len
  have hnm : n ≤ maxLen := by have := hl.1.2.1; have := hl.1.2.2.1; omega
  unfold maxLen at hnm
  clear _x0 _x1 _v0 _v1
  go_enter Try.func7, Try.ntmps7
  go_wp2_with fail
  refine (begun_any w).mono ?_
  rintro e w1 ⟨rfl, e1⟩
  go_wp2_with fail
  refine (new_any w1 4 4 (.inr rfl) (by omega)).mono ?_
  rintro e w2 ⟨b, g, rfl, hb, hg0, e2, hr2⟩
  have hg : w.heap.size ≤ g := Nat.le_trans e1.size hg0
  have e3 := e1.trans e2
  clear e1 e2 hg0
  go_wp2_with fail
  refine (take_yes hr2 (k := 0) (by decide) rfl (by omega)).mono ?_
  rintro e w3 ⟨rfl, hr3, g3⟩
  have e4 := e3.room g3 hg
  clear hr2 g3 e3 hmod hm1 hm2 hlen
  go_wp2_with fail
  go_loopw [11] (fun i wr => CpRel w b g n l i wr) (fun i _ => n - (intOf i).toNat)
  case atStart => exact ⟨0, rfl, Nat.zero_le _, Nat.zero_le _, Room.congr hr3 (fun k hk => rfl) (fun k i _ _ => by simp [upd]), e4⟩
  case round =>
    obtain ⟨j, rfl, hj8, hjn, hr, e5⟩ := hrel
    clear hr3
    by_cases hlt : j < 8 ∧ j < n
    · obtain ⟨h8, hn⟩ := hlt
      obtain ⟨ba, oa, rfl, hcell⟩ := (hl.ext e5).at_ hn
      have hset := set_yes hr (pg := 1) (k := 0) ⟨by decide, rfl, by simp [upd_same]⟩ (by simp [upd_same]) (i := j) h8 (l.getD j 0)
      have Hset := Lib.hid hset
      clear hset
      go_wp2_with fail
      refine Hset.out.mono ?_
      rintro e w6 ⟨rfl, hr6, g6⟩
      go_wp2_with fail
      go_roundw
      case rel =>
        refine ⟨j + 1, by go_num, h8, hn, Room.congr hr6 (fun _ _ => rfl) (fun k i _ _ => ?_), e5.room g6 hg⟩
        by_cases hk : k = 0
        · subst hk
          rw [upd_same]
          by_cases hij : i = j
          · subst hij; rw [upd_same]; simp
          · rw [upd_other _ _ hij]
            by_cases h1 : i < j
            · simp [h1, show i < j + 1 by omega]
            · simp [h1, show ¬ i < j + 1 by omega]
        · rw [upd_other _ _ hk]; simp [hk]
      case measure => simp [intOf]; omega
    · have hr' : Room wr b g 4 (upd (fun _ => 0) 0 1) (fun k i => if k = 0 then l.getD i 0 else 0) := Room.congr hr (fun _ _ => rfl) fun k i _ hi => by
        by_cases hk : k = 0
        · by_cases hij : i < j
          · simp [hk, hij]
          · have : l.length ≤ i := by have := hl.len; omega
            simp [hk, hij, List.getD_eq_getElem?_getD, List.getElem?_eq_none this]
        · simp [hk]
      clear hr
      by_cases h8 : j < 8
      all_goals
        first | (have hn : ¬ j < n := fun h => hlt ⟨h8, h⟩) | skip
        clear hlt
        go_wp2_with fail
        refine (copy_yes hr' (pg := 1) (k := 0) ⟨by decide, rfl, by decide⟩ (j := 1) (by decide) rfl (by decide)).mono ?_
        rintro e w6 ⟨rfl, hr6, g6⟩
        have e7 := e5.room g6 hg
        clear hr' g6 e5
        have hset := set_yes hr6 (pg := 2) (k := 1) ⟨by decide, rfl, by simp [upd_same]⟩ (by simp [upd_same]) (i := a) ha v
        have Hset := Lib.hid hset
        clear hset hr6
        go_wp2_with fail
        refine Hset.out.mono ?_
        rintro e w8 ⟨rfl, hr8, g8⟩
        have e9 := e7.room g8 hg
        clear Hset g8 e7
        have hp : ∀ i, i < 8 → Calls Try.prog 16 #[.pointer (some ⟨b, 0, none⟩), .int .i64 1, .int .i64 (i : Nat)] w8 fun e w' => e = .returned (.tuple #[.int .i32 (l.getD i 0), .bool true]) ∧ w8 = w' := fun i hi =>
          get_is hr8 (pg := 1) (k := 0) ⟨by decide, rfl, by decide⟩ hi (by simp [upd])
        have hq : ∀ i, i < 8 → Calls Try.prog 16 #[.pointer (some ⟨b, 0, none⟩), .int .i64 2, .int .i64 (i : Nat)] w8 fun e w' => e = .returned (.tuple #[.int .i32 (if i = a then v else l.getD i 0), .bool true]) ∧ w8 = w' := fun i hi =>
          get_is hr8 (pg := 2) (k := 1) ⟨by decide, rfl, by decide⟩ hi (by simp [upd])
        have Hp := Lib.hid hp
        have Hq := Lib.hid hq
        have hl8 := hl.ext e9
        clear hp hq hl
        go_wp2_with fail
        go_loop [14] (fun i => ∃ j : Nat, i = .int .i64 j ∧ j ≤ 8) (fun i => 8 - (intOf i).toNat)
        case atStart => exact ⟨0, rfl, Nat.zero_le _⟩
        case round =>
          obtain ⟨m, rfl, hm⟩ := hrel
          by_cases hm8 : m < 8
          · have Hp1 := Lib.hid (Hp.out m hm8)
            have Hq1 := Lib.hid (Hq.out m hm8)
            by_cases hmn : m < n
            · obtain ⟨ba, oa, rfl, hcell⟩ := hl8.at_ hmn
              clear hl8
              by_cases hma : m = a
              all_goals
                first | subst hma | skip
                go_wp2_with fail
                refine Hp1.out.mono ?_
                rintro e w9 ⟨rfl, rfl⟩
                go_wp2_with fail
                refine Hq1.out.mono ?_
                rintro e w9 ⟨rfl, rfl⟩
                first | rw [if_neg hma] | rw [if_pos True.intro]
                go_wp2_with fail
                go_round
                case rel => exact ⟨m + 1, by go_num, hm8⟩
                case measure => simp [intOf]; omega
            · have hd : l.getD m 0 = 0 := by
                rw [List.getD_eq_getElem?_getD, List.getElem?_eq_none (by have := hl8.len; omega)]; rfl
              rw [hd] at Hp1 Hq1
              clear hl8
              try (exfalso; omega)
              all_goals by_cases hma : m = a
              all_goals
                first | subst hma | skip
                go_wp2_with fail
                refine Hp1.out.mono ?_
                rintro e w9 ⟨rfl, rfl⟩
                go_wp2_with fail
                refine Hq1.out.mono ?_
                rintro e w9 ⟨rfl, rfl⟩
                first | rw [if_neg hma] | rw [if_pos True.intro]
                go_wp2_with fail
                go_round
                case rel => exact ⟨m + 1, by go_num, hm8⟩
                case measure => simp [intOf]; omega
          · obtain rfl : m = 8 := by omega
            clear Hp Hq hl8
            go_wp2_with fail
            refine (used_is hr8 (x := 2) (by simp [used, List.range_succ, upd])).mono ?_
            rintro e w10 ⟨rfl, e10⟩
            have hr10 := hr8.ext e10
            go_wp2_with fail
            refine (refs_is hr10 (pg := 1) (k := 0) ⟨by decide, rfl, by decide⟩ (x := 1) rfl).mono ?_
            rintro e w11 ⟨rfl, rfl⟩
            go_wp2_with fail
            refine (refs_is hr10 (pg := 2) (k := 1) ⟨by decide, rfl, by decide⟩ (x := 1) rfl).mono ?_
            rintro e w11 ⟨rfl, rfl⟩
            go_wp2_with fail
            go_ret
            exact ⟨rfl, e9.trans e10⟩
end Go.Proofs.Ytdhmmhbmgobibaa
