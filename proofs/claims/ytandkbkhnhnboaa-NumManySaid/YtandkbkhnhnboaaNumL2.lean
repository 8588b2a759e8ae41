/- The walks of the laws NumCut, NumMany, NumBack. -/
import Derived.Test.YtandkbkhnhnboaaNumL1
import Derived.Test.YtandkbkhnhnboaaRow
namespace Go.Proofs.Ytandkbkhnhnboaa
open Go.RowKit

set_option maxRecDepth 100000 in
set_option maxHeartbeats 1000000 in
theorem cut_walk (w : World) (n : Int) (h0 : -9223372036854775808 ≤ n) (h1 : n ≤ 9223372036854775807) (s : List UInt8) (hs : s.length ≤ maxLen) (cut : Int) (_c0 : -9223372036854775808 ≤ cut) (_c1 : cut ≤ 9223372036854775807) :
    Calls Try.prog 7 #[.int .i64 n, .string (bs s), .int .i64 cut] w (Yes w) := by
  obtain ⟨t, ht, htl, hte⟩ : ∃ t : List UInt8, t.length ≤ 100 ∧ t = s.take 100 ∧ (s.length ≤ 100 → t = s) := ⟨s.take 100, List.length_take_le _ _, rfl, fun h => List.take_of_length_le h⟩
  have Hl := Lib.hid htl
  have He := Lib.hid hte
  have hext := bs_extract s 100
  rw [← htl] at hext
  clear htl hte
  unfold maxLen at hs
  go_enter Try.func7, Try.ntmps7
  go_wp2_with fail
  refine (begun_any w).mono ?_
  rintro e w1 ⟨rfl, e1⟩
  go_wp2_with fail
  rotate_left
  have ht2 := He.out (by omega)
  subst ht2
  all_goals
    clear He Hl hext
    refine (put_any w1.heap.size none 0 0 [] n _ h0 h1 (Own.nil_ _ _ _ _) (by omega) (Nat.le_refl _)).mono ?_
    rintro e w2 ⟨B1, m1, d1, rfl, ho1, hg1, hw1⟩
    go_wp2_with fail
    refine (bytes_any w2.heap.size none 0 0 [] t _ (by omega) (Own.nil_ _ _ _ _) (by omega) (Nat.le_refl _)).mono ?_
    rintro e w3 ⟨B2, m2, d2, rfl, ho2, hg2, hw2⟩
    have e3 : Ext w2 w3 := ext_of_grown hg2
    have e4 : Ext w w3 := e1.trans ((ext_of_grown hg1).trans e3)
    have hr1 : Rb w3 B1 m1 d1 (putL n) := (Rb.of ho1.rd rfl).ext e3
    have hr2 : Rb w3 B2 m2 d2 (bytesL t) := Rb.of ho2.rd rfl
    have hl1 := Lib.hid hr1.len
    have hl2 := Lib.hid hr2.len
    have hx1 := hr1.max
    have hx2 := hr2.max
    have hb1 : m1 ≤ 10 := by have := putL_le n; have := hl1.out; omega
    have hb2 : m2 ≤ 200 := by have := putL_le t.length; have := hl2.out; simp [bytesL] at this; omega
    clear hg1 hg2 hw1 hw2 ho1 ho2 e1 e3
    by_cases hc1 : cut < 1
    · go_wp2_with fail
      go_ret
      exact ⟨rfl, e4⟩
    · obtain ⟨k, rfl⟩ := Int.eq_ofNat_of_zero_le (show 0 ≤ cut by omega)
      have hk : 1 ≤ k := by omega
      clear hc1 _c0 _c1
      by_cases hk1 : k ≤ m1
      · have hg1 := get_any _ _ _ _ w3 (hr1.take (k := m1 - k) (by omega))
        rw [get_cut h0 h1 (by have := hl1.out; omega)] at hg1
        have Hg1 := Lib.hid hg1
        clear hg1
        go_wp2_with fail
        refine Hg1.out.mono ?_
        rintro e w4 ⟨rfl, rfl⟩
        by_cases hk2 : k ≤ m2
        · have hg2 := text_any _ _ _ _ w3 (hr2.take (k := m2 - k) (by omega))
          rw [text_cut t (by omega) (by have := hl2.out; omega)] at hg2
          have Hg2 := Lib.hid hg2
          clear hg2 Hg1
          go_wp2_with fail
          refine Hg2.out.mono ?_
          rintro e w4 ⟨rfl, rfl⟩
          go_wp2_with fail
          go_ret
          exact ⟨rfl, e4⟩
        · clear Hg1
          go_wp2_with fail
          go_ret
          exact ⟨rfl, e4⟩
      · by_cases hk2 : k ≤ m2
        · have hg2 := text_any _ _ _ _ w3 (hr2.take (k := m2 - k) (by omega))
          rw [text_cut t (by omega) (by have := hl2.out; omega)] at hg2
          have Hg2 := Lib.hid hg2
          clear hg2
          go_wp2_with fail
          refine Hg2.out.mono ?_
          rintro e w4 ⟨rfl, rfl⟩
          go_wp2_with fail
          go_ret
          exact ⟨rfl, e4⟩
        · go_wp2_with fail
          go_ret
          exact ⟨rfl, e4⟩

/-- One element of a slice of integers that came in. -/
theorem ri_at {w : World} {k : IntKind} {A : Option Addr} {n c : Nat} {l : List Int} (h : Rd w 1 A n c (l.map (Value.int k))) {j : Nat} (hj : j < l.length) :
    ∃ b o, A = some ⟨b, o, none⟩ ∧ w.cell? ⟨b, o + j, none⟩ = some (.int k l[j]) := by
  have hn : n = l.length := by have := h.1; simp at this; omega
  obtain ⟨b, o, e, u, hu, hc⟩ := h.at_ (k := j) (by omega)
  simp [hj] at hu
  subst hu
  exact ⟨b, o, e, hc⟩
theorem take_snoc' {α : Type} {l : List α} {k : Nat} (h : k < l.length) : l.take (k + 1) = l.take k ++ [l[k]] := by
  rw [List.take_succ_eq_append_getElem h]

def ManyRel (w : World) (l : List Int) (v i : Value) (wr : World) : Prop :=
  ∃ B m d k, v = .slice B m d ∧ i = .int .i64 (k : Nat) ∧ k ≤ l.length ∧ Own wr w.heap.size 5 1 B m d (bcs (putAll (l.take k))) ∧ Ext w wr
def MoreRel (w : World) (l : List Int) (v i : Value) : Prop :=
  ∃ B m d k, v = .slice B m d ∧ i = .int .i64 (k : Nat) ∧ k ≤ l.length ∧ Rb w B m d (putAll (l.drop k))

set_option maxRecDepth 100000 in
set_option maxHeartbeats 1000000 in
theorem many_walk (w : World) (A : Option Addr) (n c : Nat) (l0 : List Int) (hr0 : Ri w .i64 A n c l0) :
    Calls Try.prog 6 #[.slice A n c] w (Yes w) := by
  obtain ⟨N, l, hN, hnN, hlw, hr⟩ : ∃ (N : Nat) (l : List Int), N ≤ 40 ∧ (n ≤ 40 ∧ n = N ∨ 40 < n ∧ N = 40) ∧ (∀ z ∈ l, (Lit.int .i64 z).wf = true) ∧ Rd w 1 A N c (l.map (Value.int .i64)) := by
    by_cases h : n ≤ 40
    · exact ⟨n, l0, h, .inl ⟨h, rfl⟩, hr0.2, hr0.1⟩
    · refine ⟨40, l0.take 40, Nat.le_refl _, .inr ⟨by omega, rfl⟩, fun z hz => hr0.2 z (List.mem_of_mem_take hz), ?_⟩
      have := hr0.1.take (k := 40) (by omega)
      rw [← List.map_take] at this
      exact this
  have hln := Lib.hid (show l.length = N by have := hr.1; simp at this; omega)
  have hx := hr0.1.2
  have hmx : n ≤ c ∧ c ≤ 9223372036854775807 := ⟨hx.1, by have := hx.2.1; unfold maxLen at this; omega⟩
  have Hlw := Lib.hid hlw
  clear hr0 hlw hx
  have hdec : n ≤ 40 ∧ n = N ∧ decide ((40 : Int) < (n : Int)) = false ∨ 40 < n ∧ N = 40 ∧ decide ((40 : Int) < (n : Int)) = true := by
    rcases hnN with ⟨h1, h2⟩ | ⟨h1, h2⟩
    · exact .inl ⟨h1, h2, by simp; omega⟩
    · exact .inr ⟨h1, h2, by simp; omega⟩
  rcases hdec with ⟨hn, rfl, hdec⟩ | ⟨hn, rfl, hdec⟩
  all_goals
    clear hnN
    go_enter Try.func6, Try.ntmps6
    go_wp2_with fail
    refine (begun_any w).mono ?_
    rintro e w1 ⟨rfl, e1⟩
    go_wp2_with fail
    go_loopw [4, 5] (fun v i wr => ManyRel w l v i wr) (fun _ i _ => l.length - (intOf i).toNat)
    case atStart => exact ⟨none, 0, 0, 0, rfl, rfl, Nat.zero_le _, Own.nil_ _ _ _ _, e1⟩
    case round =>
      obtain ⟨B, m, d, k, rfl, rfl, hk, ho, e2⟩ := hrel
      have hkN : k ≤ 40 := by have := hln.out; omega
      have hm : m ≤ 400 := by
        have h1 := ho.len
        rw [bcs_length] at h1
        have h2 := putAll_le (l.take k)
        rw [List.length_take] at h2
        omega
      by_cases hlt : k < l.length
      · obtain ⟨b, o, rfl, hc⟩ := ri_at (hr.ext e2) hlt
        have hbd := bd_i64 (Hlw.out _ (List.getElem_mem hlt))
        have hs := Lib.hid (take_snoc' hlt)
        have hd := Lib.hid (drop_cons hlt)
        have hkn := hlt
        rw [hln.out] at hkn
        generalize l[k] = x at *
        go_wp2_with fail
        refine (put_any w.heap.size B m d (putAll (l.take k)) x _ hbd.1 hbd.2 ho (by omega) e2.size).mono ?_
        rintro e w2 ⟨B', m', d', rfl, ho', hg', hw'⟩
        go_wp2_with fail
        go_roundw
        case rel => exact ⟨B', m', d', k + 1, rfl, by go_num, hlt, by rw [hs.out, putAll_snoc]; exact ho', e2.own hg' ho.blk_ge⟩
        case measure => simp [intOf]; omega
      · have hkn := hlt
        rw [hln.out] at hkn
        have hkl : k = l.length := by omega
        rw [hkl, List.take_length] at ho
        have Hkl := Lib.hid hkl
        clear hkl
        go_wp2_with fail
        go_loop [4, 6] (fun v i => MoreRel wr l v i) (fun _ i => l.length - (intOf i).toNat)
        case atStart => exact ⟨B, m, d, 0, rfl, rfl, Nat.zero_le _, Rb.of ho.rd rfl⟩
        case round =>
          obtain ⟨B2, m2, d2, j, rfl, rfl, hj, hr2⟩ := hrel
          have hjN : j ≤ 40 := by have := hln.out; omega
          by_cases hlt2 : j < l.length
          · obtain ⟨b, o, rfl, hc⟩ := ri_at (hr.ext e2) hlt2
            have hbd := bd_i64 (Hlw.out _ (List.getElem_mem hlt2))
            have hdr := drop_cons hlt2
            have hkn := hlt2
            rw [hln.out] at hkn
            rw [hdr] at hr2
            clear hdr
            generalize l[j] = x at *
            rw [putAll_cons] at hr2
            have hg := get_any _ _ _ _ _ hr2
            rw [get_put hbd.1 hbd.2] at hg
            have Hg := Lib.hid hg
            have hmx2 := hr2.max
            unfold maxLen at hmx2
            have hml : (putL x).length ≤ m2 := by have := hr2.len; rw [List.length_append] at this; omega
            have hr3 := hr2.drop hml
            rw [List.drop_left] at hr3
            generalize (putL x).length = q at *
            clear hg hr2 hbd
            go_wp2_with fail
            refine Hg.out.mono ?_
            rintro e w3 ⟨rfl, rfl⟩
            go_wp2_with fail
            all_goals
              go_round
              case rel => exact ⟨_, _, _, j + 1, rfl, by go_num, hlt2, hr3⟩
              case measure => simp [intOf]; omega
          · have hkn := hlt2
            rw [hln.out] at hkn
            have hjl : j = l.length := by omega
            rw [hjl, List.drop_length] at hr2
            have hm0 : m2 = 0 := hr2.len
            subst hm0
            clear hjl hr2
            go_wp2_with fail
            go_ret
            exact ⟨rfl, e2⟩
end Go.Proofs.Ytandkbkhnhnboaa
