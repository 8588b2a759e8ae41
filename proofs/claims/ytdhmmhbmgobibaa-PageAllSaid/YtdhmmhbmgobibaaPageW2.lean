/- The walks of package page, second part: Take, Used, New, Copy. -/
import Derived.Test.YtdhmmhbmgobibaaPageW
namespace Go.Proofs.Ytdhmmhbmgobibaa
open Go.RowKit

section
variable {w : World} {b g n : Nat} {rf : Nat → Int} {vs : Nat → Nat → Int}

theorem room_taken (h : Room w b g n rf vs) {k : Nat} (hk : k < n) :
    Room (((((((((w.setCell ⟨g, k * 9, none⟩ (.int .i32 0)).setCell ⟨g, k * 9 + 1, none⟩ (.int .i32 0)).setCell ⟨g, k * 9 + 2, none⟩ (.int .i32 0)).setCell ⟨g, k * 9 + 3, none⟩ (.int .i32 0)).setCell ⟨g, k * 9 + 4, none⟩ (.int .i32 0)).setCell
      ⟨g, k * 9 + 5, none⟩ (.int .i32 0)).setCell ⟨g, k * 9 + 6, none⟩ (.int .i32 0)).setCell ⟨g, k * 9 + 7, none⟩ (.int .i32 0)).setCell ⟨g, k * 9 + 8, none⟩ (.int .i64 1)) b g n (upd rf k 1) (upd vs k (fun _ => 0)) := by
  have h1 := (((((((((h.setVal hk (i := 0) (by omega) 0).setVal hk (i := 1) (by omega) 0).setVal hk (i := 2) (by omega) 0).setVal hk (i := 3) (by omega) 0).setVal hk (i := 4) (by omega) 0).setVal hk (i := 5) (by omega) 0).setVal hk (i := 6) (by omega) 0).setVal hk (i := 7) (by omega) 0).setRef hk 1)
  refine Room.congr h1 (fun _ _ => rfl) fun j i _ hi => ?_
  by_cases e : j = k
  · subst e
    simp only [upd_same]
    simp only [upd]
    repeat' split
    all_goals first | rfl | omega
  · simp only [upd_other _ _ e]

set_option maxRecDepth 100000 in
set_option maxHeartbeats 400000 in
theorem take_yes (h : Room w b g n rf vs) {k : Nat} (hk : k < n) (h0 : rf k = 0) (hall : ∀ j, j < k → rf j ≠ 0) :
    Calls Try.prog 10 #[.pointer (some ⟨b, 0, none⟩)] w (Left w b g n (upd rf k 1) (upd vs k (fun _ => 0)) (.tuple #[.int .i64 ((k : Int) + 1), .bool true])) := by
  have c0 := h.hd
  have hs := h.small
  go_enter Try.func10, Try.ntmps10
  go_wp2_with fail
  go_loop [12] (fun i => ∃ j : Nat, i = .int .i64 j ∧ j ≤ k) (fun i => n - (intOf i).toNat)
  case atStart => exact ⟨0, rfl, Nat.zero_le _⟩
  case round =>
    obtain ⟨j, rfl, hj⟩ := hrel
    by_cases hjk : j = k
    · subst hjk
      have c1 := h.refs j hk
      rw [h0] at c1
      have hfr := h.free
      have v0 := h.vals j 0 hk (by omega)
      have v1 := h.vals j 1 hk (by omega)
      have v2 := h.vals j 2 hk (by omega)
      have v3 := h.vals j 3 hk (by omega)
      have v4 := h.vals j 4 hk (by omega)
      have v5 := h.vals j 5 hk (by omega)
      have v6 := h.vals j 6 hk (by omega)
      have v7 := h.vals j 7 hk (by omega)
      simp only [Nat.add_zero] at v0
      have H := Lib.hid h
      clear h hall h0
      go_wp2_with fail
      go_ret2
      exact ⟨rfl, room_taken H.out hk, by
        repeat refine grown_trans ?_ (grown_set _ _ rfl _)
        exact World.grownBy.refl _ _⟩
    · have c1 := h.refs j (by omega)
      have hz : (rf j == 0) = false := by simpa using hall j (by omega)
      have hjn : j < n := by omega
      clear hall
      go_wp2_with fail
      go_round
      case rel => exact ⟨j + 1, by go_num, by omega⟩
      case measure => simp [intOf]; omega
set_option maxRecDepth 100000 in
set_option maxHeartbeats 400000 in
theorem take_no (h : Room w b g n rf vs) (hall : ∀ j, j < n → rf j ≠ 0) :
    Calls Try.prog 10 #[.pointer (some ⟨b, 0, none⟩)] w (Left w b g n rf vs (.tuple #[.int .i64 0, .bool false])) := by
  have c0 := h.hd
  have hs := h.small
  go_enter Try.func10, Try.ntmps10
  go_wp2_with fail
  go_loop [12] (fun i => ∃ j : Nat, i = .int .i64 j ∧ j ≤ n) (fun i => n - (intOf i).toNat)
  case atStart => exact ⟨0, rfl, Nat.zero_le _⟩
  case round =>
    obtain ⟨j, rfl, hj⟩ := hrel
    by_cases hjn : j < n
    · have c1 := h.refs j (by omega)
      have hz : (rf j == 0) = false := by simpa using hall j (by omega)
      clear hall
      go_wp2_with fail
      go_round
      case rel => exact ⟨j + 1, by go_num, by omega⟩
      case measure => simp [intOf]; omega
    · have H := Lib.hid h
      clear h hall
      go_wp2_with fail
      go_ret2
      exact Left.same H.out _

/-- How many are in use. -/
def used (n : Nat) (rf : Nat → Int) : Nat := (List.range n).countP fun k => decide (0 < rf k)
theorem used_succ (n : Nat) (rf : Nat → Int) : used (n + 1) rf = used n rf + if 0 < rf n then 1 else 0 := by
  unfold used
  rw [List.range_succ, List.countP_append]
  simp [List.countP_cons]
theorem used_le (n : Nat) (rf : Nat → Int) : used n rf ≤ n := by
  have := List.countP_le_length (p := fun k => decide (0 < rf k)) (l := List.range n)
  simpa [used] using this

def UsedRel (w : World) (n : Nat) (rf : Nat → Int) (c i : Value) (wr : World) : Prop := ∃ j : Nat, i = .int .i64 j ∧ j ≤ n ∧ c = .int .i64 (used j rf : Nat) ∧ Ext w wr

set_option maxRecDepth 100000 in
set_option maxHeartbeats 400000 in
theorem used_any (h : Room w b g n rf vs) :
    Calls Try.prog 17 #[.pointer (some ⟨b, 0, none⟩)] w fun e w' => e = .returned (.int .i64 (used n rf : Nat)) ∧ Ext w w' := by
  have c0 := h.hd
  have hs := h.small
  go_enter Try.func17, Try.ntmps17
  go_wp2_with fail
  go_loopw [3, 13] (fun c i wr => UsedRel w n rf c i wr) (fun _ i _ => n - (intOf i).toNat)
  case atStart => exact ⟨0, rfl, Nat.zero_le _, rfl, Ext.refl _⟩
  case round =>
    obtain ⟨j, rfl, hj, rfl, e1⟩ := hrel
    by_cases hjn : j < n
    · have h' := h.ext e1
      have c1 := h'.refs j hjn
      have v0 := h'.vals j 0 hjn (by omega)
      have v1 := h'.vals j 1 hjn (by omega)
      have v2 := h'.vals j 2 hjn (by omega)
      have v3 := h'.vals j 3 hjn (by omega)
      have v4 := h'.vals j 4 hjn (by omega)
      have v5 := h'.vals j 5 hjn (by omega)
      have v6 := h'.vals j 6 hjn (by omega)
      have v7 := h'.vals j 7 hjn (by omega)
      simp only [Nat.add_zero] at v0
      have hu := Lib.hid (used_succ j rf)
      have hul := used_le j rf
      clear h' h c0
      by_cases hp : 0 < rf j
      all_goals
        go_wp2_with fail
        go_roundw
        case rel =>
          refine ⟨j + 1, by go_num, hjn, ?_, ?_⟩
          · rw [hu.out]
            first | (rw [if_pos hp]; go_num) | (rw [if_neg hp]; rfl)
          · exact e1.trans (Ext.alloc _ _)
        case measure => simp [intOf]; omega
    · obtain rfl : j = n := by omega
      go_wp2_with fail
      go_ret
      exact ⟨rfl, e1⟩
end
theorem info_one : (Try.prog.info? 50).map (fun i => (i.zero, i.size, i.bytes)) = some (some (.agg #[.int .i32 0, .int .i32 0, .int .i32 0, .int .i32 0, .int .i32 0, .int .i32 0, .int .i32 0, .int .i32 0, .int .i64 0]), 9, 40) := by kernel_rfl

def onez : Array Value := #[.int .i32 0, .int .i32 0, .int .i32 0, .int .i32 0, .int .i32 0, .int .i32 0, .int .i32 0, .int .i32 0, .int .i64 0]
theorem made_at (m k i : Nat) (hk : k < m) (hi : i < 9) : (madeCells onez (m * 9))[k * 9 + i]? = some (onez[i]'hi) := by
  have hlt : k * 9 + i < m * 9 := by omega
  unfold madeCells
  rw [Array.getElem?_map, Array.getElem?_range, if_pos hlt]
  simp only [Option.map_some]
  have e : (k * 9 + i) % onez.size = i := by show (k * 9 + i) % 9 = i; omega
  rw [e, getElem!_pos onez i hi]
theorem onez_at : ∀ i (h : i < 8), onez[i]'(Nat.lt_succ_of_lt h) = .int .i32 0
  | 0, _ => rfl | 1, _ => rfl | 2, _ => rfl | 3, _ => rfl | 4, _ => rfl | 5, _ => rfl | 6, _ => rfl | 7, _ => rfl
  | n + 8, h => by omega
theorem room_made (w : World) (m : Nat) (hm : m ≤ 200) :
    Room ((w.alloc (.cells (madeCells onez (m * 9)) 50)).alloc (.cells #[.slice (some ⟨w.heap.size, 0, none⟩) m m] 48)) (w.heap.size + 1) w.heap.size m (fun _ => 0) (fun _ _ => 0) := by
  have hcell : ∀ o v, (madeCells onez (m * 9))[o]? = some v → ((w.alloc (.cells (madeCells onez (m * 9)) 50)).alloc (.cells #[.slice (some ⟨w.heap.size, 0, none⟩) m m] 48)).cell? ⟨w.heap.size, o, none⟩ = some v := by
    intro o v h
    have h1 : (w.alloc (.cells (madeCells onez (m * 9)) 50)).cell? ⟨w.heap.size, o, none⟩ = some v := by
      rw [cell_of_row _ _ _ _ _ _ (heap_alloc_new w _)]; exact h
    exact (Ext.alloc _ _).cell h1
  refine ⟨by omega, ?_, hm, fun k hk => ?_, fun k i hk hi => ?_, fun o => ?_, ?_⟩
  · have h := cell_of_row _ _ 0 _ _ _ (heap_alloc_new (w.alloc (.cells (madeCells onez (m * 9)) 50)) (.cells #[.slice (some ⟨w.heap.size, 0, none⟩) m m] 48))
    rw [World.size_alloc] at h
    exact h
  · exact hcell _ _ (made_at m k 8 hk (by omega))
  · have h := made_at m k i hk (by omega)
    rw [hcell _ _ h]
    exact congrArg some (onez_at i hi)
  · have h1 : (w.alloc (.cells (madeCells onez (m * 9)) 50)).frozen? ⟨w.heap.size, o, none⟩ = false := by
      simp only [World.frozen?]
      rw [heap_alloc_new]
      simp
    exact (Below.frozen (Ext.alloc _ _) (p := ⟨w.heap.size, o, none⟩) (by simp)).trans h1
  · simp only [World.size_alloc]; omega

/-- What New leaves. -/
def NewRoom (w : World) (m : Nat) (e : Ending) (w' : World) : Prop := ∃ b g, e = .returned (.pointer (some ⟨b, 0, none⟩)) ∧ w.heap.size ≤ b ∧ w.heap.size ≤ g ∧ Ext w w' ∧ Room w' b g m (fun _ => 0) (fun _ _ => 0)

set_option maxRecDepth 100000 in
set_option maxHeartbeats 400000 in
theorem new_any (w : World) (x : Int) (m : Nat) (hx : x ≤ 0 ∧ m = 0 ∨ x = m) (hm : m ≤ 200) :
    Calls Try.prog 9 #[.int .i64 x] w (NewRoom w m) := by
  obtain ⟨i, hi, hz0, hz1, hz2⟩ := info_parts info_one
  have hmk : ∀ W : World, (Instr.makeSlice 46 (.int .i64 (m : Int)) (.int .i64 (m : Int))).run Try.prog W = .ok (.slice (some ⟨W.heap.size, 0, none⟩) m m) (W.alloc (.cells (madeCells onez (m * 9)) 50)) := by
    intro W
    have h := run_make (P := Try.prog) W 46 50 i _ Try.underlying46 hi hz0 .i64 .i64 (m : Int) (m : Int) (by omega) (Int.le_refl _) (by rw [hz2]; omega) (by omega)
    rw [hz1] at h
    exact h
  have hr := Lib.hid (room_made w m hm)
  have he := Lib.hid ((Ext.alloc w (.cells (madeCells onez (m * 9)) 50)).trans (Ext.alloc _ (.cells #[.slice (some ⟨w.heap.size, 0, none⟩) m m] 48)))
  have goal : ∀ w', w' = ((w.alloc (.cells (madeCells onez (m * 9)) 50)).alloc (.cells #[.slice (some ⟨w.heap.size, 0, none⟩) m m] 48)) → NewRoom w m (.returned (.pointer (some ⟨w.heap.size + 1, 0, none⟩))) w' := by
    rintro w' rfl
    exact ⟨_, _, rfl, by omega, Nat.le_refl _, he.out, hr.out⟩
  have Hg := Lib.hid goal
  clear goal hi hz0 hz1 hz2
  by_cases hp : 0 < x
  · have hxm : x = m := by omega
    subst hxm
    clear hx
    go_enter Try.func9, Try.ntmps9
    go_wp2_with fail
    go_ret
    exact Hg.out _ rfl
  · have hm0 : m = 0 := by omega
    subst hm0
    simp only [Int.natCast_zero] at hmk
    clear hx
    go_enter Try.func9, Try.ntmps9
    by_cases hx0 : x < 0
    · go_wp2_with fail
      go_ret
      exact Hg.out _ rfl
    · obtain rfl : x = 0 := by omega
      go_wp2_with fail
      go_ret
      exact Hg.out _ rfl
end Go.Proofs.Ytdhmmhbmgobibaa
