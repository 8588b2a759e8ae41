/- The walks of package page, third part: Copy. -/
import Derived.Test.YtdhmmhbmgobibaaPageW2
import Derived.Test.YtdhmmhbmgobibaaReg
namespace Go.Proofs.Ytdhmmhbmgobibaa
open Go.RowKit

section
variable {w : World} {b g n : Nat} {rf : Nat → Int} {vs : Nat → Nat → Int}

theorem room_copied (h : Room w b g n rf vs) {j : Nat} (hj : j < n) (u : Nat → Int) :
    Room ((((((((w.setCell ⟨g, j * 9, none⟩ (.int .i32 (u 0))).setCell ⟨g, j * 9 + 1, none⟩ (.int .i32 (u 1))).setCell ⟨g, j * 9 + 2, none⟩ (.int .i32 (u 2))).setCell ⟨g, j * 9 + 3, none⟩ (.int .i32 (u 3))).setCell ⟨g, j * 9 + 4, none⟩ (.int .i32 (u 4))).setCell
      ⟨g, j * 9 + 5, none⟩ (.int .i32 (u 5))).setCell ⟨g, j * 9 + 6, none⟩ (.int .i32 (u 6))).setCell ⟨g, j * 9 + 7, none⟩ (.int .i32 (u 7))) b g n rf (upd vs j u) := by
  have h1 := (((((((h.setVal hj (i := 0) (by omega) (u 0)).setVal hj (i := 1) (by omega) (u 1)).setVal hj (i := 2) (by omega) (u 2)).setVal hj (i := 3) (by omega) (u 3)).setVal hj (i := 4) (by omega) (u 4)).setVal hj (i := 5) (by omega) (u 5)).setVal hj (i := 6) (by omega) (u 6)).setVal hj (i := 7) (by omega) (u 7)
  refine Room.congr h1 (fun _ _ => rfl) fun j' i _ hi => ?_
  by_cases e : j' = j
  · subst e
    simp only [upd_same]
    simp only [upd]
    repeat' split
    all_goals first | (subst_vars; rfl) | omega
  · simp only [upd_other _ _ e]

set_option maxRecDepth 100000 in
set_option maxHeartbeats 1000000 in
theorem copy_yes (h : Room w b g n rf vs) {pg : Int} {k : Nat} (hf : Found n rf pg k) {j : Nat} (hj : j < n) (h0 : rf j = 0) (hall : ∀ i, i < j → rf i ≠ 0) :
    Calls Try.prog 11 #[.pointer (some ⟨b, 0, none⟩), .int .i64 pg] w (Left w b g n (upd rf j 1) (upd vs j (vs k)) (.tuple #[.int .i64 ((j : Int) + 1), .bool true])) := by
  have hkj : k ≠ j := fun e => hf.2.2 (by rw [e]; exact h0)
  have H1 := Lib.hid (at_yes h hf)
  have H2 := Lib.hid (take_yes h hj h0 hall)
  have hk := hf.1
  have hs := h.small
  clear h hf hall
  go_enter Try.func11, Try.ntmps11
  go_wp2_with fail
  refine H1.out.mono ?_
  rintro e w1 ⟨rfl, rfl⟩
  go_wp2_with fail
  refine H2.out.mono ?_
  rintro e w1 ⟨rfl, hr, hg⟩
  have hf1 : Found n (upd rf j 1) ((j : Int) + 1) j := ⟨hj, rfl, by rw [upd_same]; decide⟩
  have H3 : ∀ W, Dr w1 W → Calls Try.prog 19 #[.pointer (some ⟨b, 0, none⟩), .int .i64 ((j : Int) + 1)] W fun e w' => e = .returned (.pointer (some ⟨g, j * 9, none⟩)) ∧ W = w' := fun W hW => at_yes (hr.ext hW.ext) hf1
  have H3' := Lib.hid H3
  clear H3
  have hv : ∀ i, i < 8 → w1.cell? ⟨g, k * 9 + i, none⟩ = some (.int .i32 (vs k i)) := fun i hi => by
    have := hr.vals k i hk hi
    rwa [upd_other _ _ hkj] at this
  have v0 := hv 0 (by omega)
  have v1 := hv 1 (by omega)
  have v2 := hv 2 (by omega)
  have v3 := hv 3 (by omega)
  have v4 := hv 4 (by omega)
  have v5 := hv 5 (by omega)
  have v6 := hv 6 (by omega)
  have v7 := hv 7 (by omega)
  have hw := fun i hi => hr.vals j i hj hi
  have u0 := hw 0 (by omega)
  have u1 := hw 1 (by omega)
  have u2 := hw 2 (by omega)
  have u3 := hw 3 (by omega)
  have u4 := hw 4 (by omega)
  have u5 := hw 5 (by omega)
  have u6 := hw 6 (by omega)
  have u7 := hw 7 (by omega)
  simp only [Nat.add_zero] at v0 u0
  have hfr := hr.free
  have Hr0 : ∀ W, Dr w1 W → Room W b g n (upd rf j 1) (upd vs j fun _ => 0) := fun W hW => hr.ext hW.ext
  have Hr := Lib.hid Hr0
  clear hv hw hr hf1 Hr0
  go_wp2_with fail
  apply wp_region_lex_tail 9 (R := Dr) (by rfl) (by rfl) (by rfl) (by kernel_rfl) (by kernel_rfl) (by kernel_rfl) Dr.refl (fun _ _ _ => Dr.trans) (Dr.drew _)
  simp only [List.take_succ_cons, List.take_zero]
  iterate 2
    apply lex_ex Dr.refl
    · rfl
    · intro W hR hΦ
      obtain ⟨nq, rfl⟩ := hR
      go_simp
      first | done | with_reducible rfl
    simp only [Act.put, List.setIfInBounds_toArray, List.set_cons_zero, List.set_cons_succ]
  apply lex_callx (u := .pointer (some ⟨g, j * 9, none⟩))
  · rfl
  · intro W
    go_simp
    exact ⟨rfl, rfl⟩
  · intro W hR hΦ
    exact (H3'.out W hR).mono fun _ _ hh => ⟨hh.1, hh.2 ▸ Dr.refl _⟩
  simp only [Act.put, List.setIfInBounds_toArray, List.set_cons_zero, List.set_cons_succ]
  repeat
    apply lex_ex Dr.refl
    · rfl
    · intro W hR hΦ
      obtain ⟨nq, rfl⟩ := hR
      go_simp
      first | done | with_reducible rfl
    simp only [Act.put, List.setIfInBounds_toArray, List.set_cons_zero, List.set_cons_succ]
  refine lex_nil ?_
  intro W hR _
  obtain ⟨nq, rfl⟩ := hR
  go_wp2_with fail
  go_ret2
  have hr2 := room_copied (Hr.out _ ⟨nq, rfl⟩) hj (vs k)
  refine ⟨rfl, Room.congr hr2 (fun _ _ => rfl) fun j' i _ _ => ?_, ?_⟩
  · by_cases e : j' = j
    · subst e
      simp only [upd_same]
    · simp only [upd_other _ _ e]
  · repeat refine grown_trans ?_ (grown_set _ _ rfl _)
    exact grown_ext hg (Dr.ext ⟨nq, rfl⟩)

set_option maxRecDepth 100000 in
set_option maxHeartbeats 1000000 in
/-- A copy of no page; or there is no room. -/
theorem copy_no (h : Room w b g n rf vs) {pg : Int} (hl : -9223372036854775808 ≤ pg) (hu : pg ≤ 9223372036854775807) (hf : Lost n rf pg ∨ (∃ k, Found n rf pg k) ∧ ∀ j, j < n → rf j ≠ 0) :
    Calls Try.prog 11 #[.pointer (some ⟨b, 0, none⟩), .int .i64 pg] w (Left w b g n rf vs (.tuple #[.int .i64 0, .bool false])) := by
  rcases hf with hf | ⟨⟨k, hf⟩, hall⟩
  · have H1 := Lib.hid (at_no h hl hu hf)
    have H := Lib.hid h
    clear h hf hl hu
    go_enter Try.func11, Try.ntmps11
    go_wp2_with fail
    refine H1.out.mono ?_
    rintro e w1 ⟨rfl, rfl⟩
    go_wp2_with fail
    go_ret2
    exact Left.same H.out _
  · have H1 := Lib.hid (at_yes h hf)
    have H2 := Lib.hid (take_no h hall)
    clear h hf hl hu hall
    go_enter Try.func11, Try.ntmps11
    go_wp2_with fail
    refine H1.out.mono ?_
    rintro e w1 ⟨rfl, rfl⟩
    go_wp2_with fail
    refine H2.out.mono ?_
    rintro e w1 ⟨rfl, hr, hg⟩
    go_wp2_with fail
    go_ret2
    exact ⟨rfl, hr, hg⟩
end
end Go.Proofs.Ytdhmmhbmgobibaa
