/- The walks of package page. -/
import Derived.Test.YtdhmmhbmgobibaaRows
import Derived.Test.YtdhmmhbmgobibaaKit
namespace Go.Proofs.Ytdhmmhbmgobibaa
open Go.RowKit

/-- A room at block b, its pages in block g: n of them, page k held rf k times, with the numbers vs k. -/
structure Room (w : World) (b g n : Nat) (rf : Nat → Int) (vs : Nat → Nat → Int) : Prop where
  ne : b ≠ g
  hd : w.cell? ⟨b, 0, none⟩ = some (.slice (some ⟨g, 0, none⟩) n n)
  small : n ≤ 200
  refs : ∀ k, k < n → w.cell? ⟨g, k * 9 + 8, none⟩ = some (.int .i64 (rf k))
  vals : ∀ k i, k < n → i < 8 → w.cell? ⟨g, k * 9 + i, none⟩ = some (.int .i32 (vs k i))
  free : ∀ o, w.frozen? ⟨g, o, none⟩ = false
  lt : g < w.heap.size

def Found (n : Nat) (rf : Nat → Int) (pg : Int) (k : Nat) : Prop := k < n ∧ pg = (k : Int) + 1 ∧ rf k ≠ 0
def Lost (n : Nat) (rf : Nat → Int) (pg : Int) : Prop := pg < 1 ∨ (n : Int) < pg ∨ ∃ k, k < n ∧ pg = (k : Int) + 1 ∧ rf k = 0

set_option maxRecDepth 100000 in
set_option maxHeartbeats 400000 in
theorem at_yes {w : World} {b g n : Nat} {rf : Nat → Int} {vs : Nat → Nat → Int} (h : Room w b g n rf vs) {pg : Int} {k : Nat} (hf : Found n rf pg k) :
    Calls Try.prog 19 #[.pointer (some ⟨b, 0, none⟩), .int .i64 pg] w fun e w' => e = .returned (.pointer (some ⟨g, k * 9, none⟩)) ∧ w = w' := by
  obtain ⟨hk, rfl, hne⟩ := hf
  have c0 := h.hd
  have c1 := h.refs k hk
  have hs := h.small
  have hz : (rf k == 0) = false := by simpa using hne
  have hi : (k : Int) + 1 - 1 = (k : Int) := by omega
  clear h hne
  go_enter Try.func19, Try.ntmps19
  go_wp2_with fail
  go_ret
  exact ⟨rfl, rfl⟩

set_option maxRecDepth 100000 in
set_option maxHeartbeats 400000 in
theorem at_no {w : World} {b g n : Nat} {rf : Nat → Int} {vs : Nat → Nat → Int} (h : Room w b g n rf vs) {pg : Int} (hl : -9223372036854775808 ≤ pg) (hu : pg ≤ 9223372036854775807) (hf : Lost n rf pg) :
    Calls Try.prog 19 #[.pointer (some ⟨b, 0, none⟩), .int .i64 pg] w fun e w' => e = .returned (.pointer none) ∧ w = w' := by
  have c0 := h.hd
  have hs := h.small
  rcases hf with hf | hf | ⟨k, hk, rfl, hf⟩
  · clear h
    go_enter Try.func19, Try.ntmps19
    go_wp2_with fail
    go_ret
    exact ⟨rfl, rfl⟩
  · clear h
    go_enter Try.func19, Try.ntmps19
    go_wp2_with fail
    go_ret
    exact ⟨rfl, rfl⟩
  · have c1 := h.refs k hk
    rw [hf] at c1
    have hi : (k : Int) + 1 - 1 = (k : Int) := by omega
    clear h hf hl hu
    go_enter Try.func19, Try.ntmps19
    go_wp2_with fail
    go_ret
    exact ⟨rfl, rfl⟩

theorem found_or {n : Nat} (rf : Nat → Int) (pg : Int) : (∃ k, Found n rf pg k) ∨ Lost n rf pg := by
  by_cases h1 : pg < 1
  · exact .inr (.inl h1)
  · by_cases h2 : (n : Int) < pg
    · exact .inr (.inr (.inl h2))
    · obtain ⟨k, hk⟩ := Int.eq_ofNat_of_zero_le (show 0 ≤ pg - 1 by omega)
      by_cases h3 : rf k = 0
      · exact .inr (.inr (.inr ⟨k, by omega, by omega, h3⟩))
      · exact .inl ⟨k, by omega, by omega, h3⟩

/-- Two cells of the pages' block are two. -/
theorem off_ne {k k' i i' : Nat} (hi : i < 9) (hi' : i' < 9) (h : ¬ (k = k' ∧ i = i')) : k * 9 + i ≠ k' * 9 + i' := by omega

def upd {α : Type} (f : Nat → α) (k : Nat) (x : α) : Nat → α := fun j => if j = k then x else f j
theorem upd_same {α : Type} (f : Nat → α) (k : Nat) (x : α) : upd f k x k = x := by simp [upd]
theorem upd_other {α : Type} (f : Nat → α) {k j : Nat} (x : α) (h : j ≠ k) : upd f k x j = f j := by simp [upd, h]

theorem frozen_set (w : World) (a : Addr) (u : Value) (p : Addr) : (w.setCell a u).frozen? p = w.frozen? p := by simp
theorem Room.setRef {w : World} {b g n : Nat} {rf : Nat → Int} {vs : Nat → Nat → Int} (h : Room w b g n rf vs) {k : Nat} (hk : k < n) (x : Int) :
    Room (w.setCell ⟨g, k * 9 + 8, none⟩ (.int .i64 x)) b g n (upd rf k x) vs := by
  refine ⟨h.ne, ?_, h.small, fun j hj => ?_, fun j i hj hi => ?_, fun o => ?_, ?_⟩
  · rw [World.cell?_setCell_other _ _ _ _ (by intro e; injection e with e1; exact h.ne e1.symm)]
    exact h.hd
  · by_cases e : j = k
    · subst e
      rw [upd_same]
      exact World.cell?_setCell_same _ _ _ (h.refs j hj)
    · rw [upd_other _ _ e, World.cell?_setCell_other _ _ _ _ (by intro e'; injection e' with _ e2; omega)]
      exact h.refs j hj
  · rw [World.cell?_setCell_other _ _ _ _ (by intro e'; injection e' with _ e2; omega)]
    exact h.vals j i hj hi
  · rw [frozen_set]; exact h.free o
  · simpa [World.setCell] using h.lt
theorem Room.setVal {w : World} {b g n : Nat} {rf : Nat → Int} {vs : Nat → Nat → Int} (h : Room w b g n rf vs) {k i : Nat} (hk : k < n) (hi : i < 8) (x : Int) :
    Room (w.setCell ⟨g, k * 9 + i, none⟩ (.int .i32 x)) b g n rf (upd vs k (upd (vs k) i x)) := by
  refine ⟨h.ne, ?_, h.small, fun j hj => ?_, fun j i' hj hi' => ?_, fun o => ?_, ?_⟩
  · rw [World.cell?_setCell_other _ _ _ _ (by intro e; injection e with e1; exact h.ne e1.symm)]
    exact h.hd
  · rw [World.cell?_setCell_other _ _ _ _ (by intro e'; injection e' with _ e2; omega)]
    exact h.refs j hj
  · by_cases e : j = k
    · subst e
      rw [upd_same]
      by_cases e' : i' = i
      · subst e'
        rw [upd_same]
        exact World.cell?_setCell_same _ _ _ (h.vals j i' hj hi')
      · rw [upd_other _ _ e', World.cell?_setCell_other _ _ _ _ (by intro e'; injection e' with _ e2; omega)]
        exact h.vals j i' hj hi'
    · rw [upd_other _ _ e, World.cell?_setCell_other _ _ _ _ (by intro e'; injection e' with _ e2; omega)]
      exact h.vals j i' hj hi'
  · rw [frozen_set]; exact h.free o
  · simpa [World.setCell] using h.lt

theorem Room.congr {w : World} {b g n : Nat} {rf rf' : Nat → Int} {vs vs' : Nat → Nat → Int} (h : Room w b g n rf vs) (h1 : ∀ k, k < n → rf' k = rf k) (h2 : ∀ k i, k < n → i < 8 → vs' k i = vs k i) : Room w b g n rf' vs' :=
  ⟨h.ne, h.hd, h.small, fun k hk => by rw [h1 k hk]; exact h.refs k hk, fun k i hk hi => by rw [h2 k i hk hi]; exact h.vals k i hk hi, h.free, h.lt⟩
theorem Room.ext {w w' : World} {b g n : Nat} {rf : Nat → Int} {vs : Nat → Nat → Int} (h : Room w b g n rf vs) (e : Ext w w') : Room w' b g n rf vs :=
  ⟨h.ne, e.cell h.hd, h.small, fun k hk => e.cell (h.refs k hk), fun k i hk hi => e.cell (h.vals k i hk hi), fun o => (Below.frozen e (p := ⟨g, o, none⟩) h.lt).trans (h.free o), Nat.lt_of_lt_of_le h.lt e.size⟩
theorem grown_set (w : World) {g : Nat} (a : Addr) (ha : a.block = g) (u : Value) : w.grownBy (w.setCell a u) (some g) :=
  ⟨rfl, rfl, rfl, by simp [World.setCell], fun k _ hk => Below.heap_setCell w a u k (by rintro rfl; exact hk (by rw [ha]))⟩

/-- What a method leaves: the room as told, nothing else turned. -/
def Left (w : World) (b g n : Nat) (rf : Nat → Int) (vs : Nat → Nat → Int) (v : Value) (e : Ending) (w' : World) : Prop := e = .returned v ∧ Room w' b g n rf vs ∧ w.grownBy w' (some g)
theorem Left.same {w : World} {b g n : Nat} {rf : Nat → Int} {vs : Nat → Nat → Int} (h : Room w b g n rf vs) (v : Value) : Left w b g n rf vs v (.returned v) w := ⟨rfl, h, World.grownBy.refl _ _⟩

section
variable {w : World} {b g n : Nat} {rf : Nat → Int} {vs : Nat → Nat → Int}

set_option maxRecDepth 100000 in
set_option maxHeartbeats 400000 in
theorem hold_yes (h : Room w b g n rf vs) {pg : Int} {k : Nat} (hf : Found n rf pg k) (hb0 : -1000000 ≤ rf k) (hb : rf k ≤ 1000000) :
    Calls Try.prog 12 #[.pointer (some ⟨b, 0, none⟩), .int .i64 pg] w (Left w b g n (upd rf k (rf k + 1)) vs (.bool true)) := by
  have H := Lib.hid (at_yes h hf)
  have c1 := h.refs k hf.1
  have hfr := h.free (k * 9 + 8)
  have Hf := Lib.hid (h.setRef hf.1 (rf k + 1))
  clear h hf
  go_enter Try.func12, Try.ntmps12
  go_wp2_with fail
  refine H.out.mono ?_
  rintro e w1 ⟨rfl, rfl⟩
  go_wp2_with fail
  go_ret
  exact ⟨rfl, Hf.out, grown_set _ _ rfl _⟩
set_option maxRecDepth 100000 in
set_option maxHeartbeats 400000 in
theorem hold_no (h : Room w b g n rf vs) {pg : Int} (hl : -9223372036854775808 ≤ pg) (hu : pg ≤ 9223372036854775807) (hf : Lost n rf pg) :
    Calls Try.prog 12 #[.pointer (some ⟨b, 0, none⟩), .int .i64 pg] w (Left w b g n rf vs (.bool false)) := by
  have H := Lib.hid (at_no h hl hu hf)
  have Hf := Lib.hid h
  clear h hf hl hu
  go_enter Try.func12, Try.ntmps12
  go_wp2_with fail
  refine H.out.mono ?_
  rintro e w1 ⟨rfl, rfl⟩
  go_wp2_with fail
  go_ret
  exact Left.same Hf.out _
set_option maxRecDepth 100000 in
set_option maxHeartbeats 400000 in
theorem drop_yes (h : Room w b g n rf vs) {pg : Int} {k : Nat} (hf : Found n rf pg k) (hb0 : -1000000 ≤ rf k) (hb : rf k ≤ 1000000) :
    Calls Try.prog 13 #[.pointer (some ⟨b, 0, none⟩), .int .i64 pg] w (Left w b g n (upd rf k (rf k - 1)) vs (.bool true)) := by
  have H := Lib.hid (at_yes h hf)
  have c1 := h.refs k hf.1
  have hfr := h.free (k * 9 + 8)
  have Hf := Lib.hid (h.setRef hf.1 (rf k - 1))
  clear h hf
  go_enter Try.func13, Try.ntmps13
  go_wp2_with fail
  refine H.out.mono ?_
  rintro e w1 ⟨rfl, rfl⟩
  go_wp2_with fail
  go_ret
  exact ⟨rfl, Hf.out, grown_set _ _ rfl _⟩
set_option maxRecDepth 100000 in
set_option maxHeartbeats 400000 in
theorem drop_no (h : Room w b g n rf vs) {pg : Int} (hl : -9223372036854775808 ≤ pg) (hu : pg ≤ 9223372036854775807) (hf : Lost n rf pg) :
    Calls Try.prog 13 #[.pointer (some ⟨b, 0, none⟩), .int .i64 pg] w (Left w b g n rf vs (.bool false)) := by
  have H := Lib.hid (at_no h hl hu hf)
  have Hf := Lib.hid h
  clear h hf hl hu
  go_enter Try.func13, Try.ntmps13
  go_wp2_with fail
  refine H.out.mono ?_
  rintro e w1 ⟨rfl, rfl⟩
  go_wp2_with fail
  go_ret
  exact Left.same Hf.out _
set_option maxRecDepth 100000 in
set_option maxHeartbeats 400000 in
theorem refs_yes (h : Room w b g n rf vs) {pg : Int} {k : Nat} (hf : Found n rf pg k) :
    Calls Try.prog 18 #[.pointer (some ⟨b, 0, none⟩), .int .i64 pg] w fun e w' => e = .returned (.int .i64 (rf k)) ∧ w = w' := by
  have H := Lib.hid (at_yes h hf)
  have c1 := h.refs k hf.1
  clear h hf
  go_enter Try.func18, Try.ntmps18
  go_wp2_with fail
  refine H.out.mono ?_
  rintro e w1 ⟨rfl, rfl⟩
  go_wp2_with fail
  go_ret
  exact ⟨rfl, rfl⟩
set_option maxRecDepth 100000 in
set_option maxHeartbeats 400000 in
theorem refs_no (h : Room w b g n rf vs) {pg : Int} (hl : -9223372036854775808 ≤ pg) (hu : pg ≤ 9223372036854775807) (hf : Lost n rf pg) :
    Calls Try.prog 18 #[.pointer (some ⟨b, 0, none⟩), .int .i64 pg] w fun e w' => e = .returned (.int .i64 0) ∧ w = w' := by
  have H := Lib.hid (at_no h hl hu hf)
  clear h hf hl hu
  go_enter Try.func18, Try.ntmps18
  go_wp2_with fail
  refine H.out.mono ?_
  rintro e w1 ⟨rfl, rfl⟩
  go_wp2_with fail
  go_ret
  exact ⟨rfl, rfl⟩
set_option maxRecDepth 100000 in
set_option maxHeartbeats 400000 in
theorem get_yes (h : Room w b g n rf vs) {pg : Int} {k : Nat} (hf : Found n rf pg k) {i : Nat} (hi : i < 8) :
    Calls Try.prog 16 #[.pointer (some ⟨b, 0, none⟩), .int .i64 pg, .int .i64 (i : Nat)] w fun e w' => e = .returned (.tuple #[.int .i32 (vs k i), .bool true]) ∧ w = w' := by
  have H := Lib.hid (at_yes h hf)
  have c1 := h.vals k i hf.1 hi
  clear h hf
  go_enter Try.func16, Try.ntmps16
  go_wp2_with fail
  refine H.out.mono ?_
  rintro e w1 ⟨rfl, rfl⟩
  go_wp2_with fail
  go_ret2
  exact ⟨rfl, rfl⟩
set_option maxRecDepth 100000 in
set_option maxHeartbeats 400000 in
theorem get_no (h : Room w b g n rf vs) {pg : Int} (hl : -9223372036854775808 ≤ pg) (hu : pg ≤ 9223372036854775807) (i : Int) (hf : Lost n rf pg ∨ (∃ k, Found n rf pg k) ∧ (i < 0 ∨ 8 ≤ i)) :
    Calls Try.prog 16 #[.pointer (some ⟨b, 0, none⟩), .int .i64 pg, .int .i64 i] w fun e w' => e = .returned (.tuple #[.int .i32 0, .bool false]) ∧ w = w' := by
  rcases hf with hf | ⟨⟨k, hf⟩, hi | hi⟩
  · have H := Lib.hid (at_no h hl hu hf)
    clear h hf hl hu
    go_enter Try.func16, Try.ntmps16
    go_wp2_with fail
    refine H.out.mono ?_
    rintro e w1 ⟨rfl, rfl⟩
    go_wp2_with fail
    go_ret2
    exact ⟨rfl, rfl⟩
  all_goals
    have H := Lib.hid (at_yes h hf)
    clear h hf hl hu
    go_enter Try.func16, Try.ntmps16
    go_wp2_with fail
    refine H.out.mono ?_
    rintro e w1 ⟨rfl, rfl⟩
    go_wp2_with fail
    go_ret2
    exact ⟨rfl, rfl⟩
set_option maxRecDepth 100000 in
set_option maxHeartbeats 400000 in
theorem set_yes (h : Room w b g n rf vs) {pg : Int} {k : Nat} (hf : Found n rf pg k) (h1 : rf k ≤ 1) {i : Nat} (hi : i < 8) (x : Int) :
    Calls Try.prog 14 #[.pointer (some ⟨b, 0, none⟩), .int .i64 pg, .int .i64 (i : Nat), .int .i32 x] w (Left w b g n rf (upd vs k (upd (vs k) i x)) (.bool true)) := by
  have H := Lib.hid (at_yes h hf)
  have c0 := h.refs k hf.1
  have c1 := h.vals k i hf.1 hi
  have hfr := h.free (k * 9 + i)
  have Hf := Lib.hid (h.setVal hf.1 hi x)
  clear h hf
  go_enter Try.func14, Try.ntmps14
  go_wp2_with fail
  refine H.out.mono ?_
  rintro e w1 ⟨rfl, rfl⟩
  go_wp2_with fail
  go_ret
  exact ⟨rfl, Hf.out, grown_set _ _ rfl _⟩
set_option maxRecDepth 100000 in
set_option maxHeartbeats 400000 in
theorem set_no (h : Room w b g n rf vs) {pg : Int} (hl : -9223372036854775808 ≤ pg) (hu : pg ≤ 9223372036854775807) (i x : Int) (hf : Lost n rf pg ∨ (∃ k, Found n rf pg k ∧ ((i < 0 ∨ 8 ≤ i) ∨ 0 ≤ i ∧ i < 8 ∧ 1 < rf k))) :
    Calls Try.prog 14 #[.pointer (some ⟨b, 0, none⟩), .int .i64 pg, .int .i64 i, .int .i32 x] w (Left w b g n rf vs (.bool false)) := by
  rcases hf with hf | ⟨k, hf, (hi | hi) | ⟨h1, h2, h3⟩⟩
  · have H := Lib.hid (at_no h hl hu hf)
    have Hf := Lib.hid h
    clear h hf hl hu
    go_enter Try.func14, Try.ntmps14
    go_wp2_with fail
    refine H.out.mono ?_
    rintro e w1 ⟨rfl, rfl⟩
    go_wp2_with fail
    go_ret
    exact Left.same Hf.out _
  all_goals
    have H := Lib.hid (at_yes h hf)
    have c0 := h.refs k hf.1
    have Hf := Lib.hid h
    clear h hf hl hu
    go_enter Try.func14, Try.ntmps14
    go_wp2_with fail
    refine H.out.mono ?_
    rintro e w1 ⟨rfl, rfl⟩
    go_wp2_with fail
    go_ret
    exact Left.same Hf.out _
end
end Go.Proofs.Ytdhmmhbmgobibaa
