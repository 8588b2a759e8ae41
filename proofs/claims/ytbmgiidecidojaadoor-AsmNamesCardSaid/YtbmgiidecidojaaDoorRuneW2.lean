/- The walk of the reference's Words. -/
import Derived.Test.YtbmgiidecidojaaDoorRuneW
namespace Go.Proofs.YtbmgiidecidojaaDoor
open Go.RowKit

def RwRel (w : World) (l : List UInt8) (b s i : Value) (w' : World) : Prop :=
  ∃ (j : Nat) (cur : List UInt8) (ws : List (List UInt8)) (B : Option Addr) (d : Nat), i = .int .i64 (j : Nat) ∧ j ≤ l.length ∧ s = .string (bs cur) ∧ b = .slice B ws.length d ∧ Own w' w.heap.size 9 1 B ws.length d (scs ws) ∧ Ext w w' ∧
    ws.length ≤ j ∧ cur.length ≤ j ∧ wordsL l = ws ++ wgo (l.drop j) cur

theorem rw_rest {l cur : List UInt8} {j : Nat} {ws : List (List UInt8)} (hj : j < l.length) (hb : bt l j ≠ 32 ∧ bt l j ≠ 9) (h : wordsL l = ws ++ wgo (l.drop j) cur) : wordsL l = ws ++ wgo (l.drop (j + 1)) (cur ++ [l[j]]) := by
  rw [h, List.drop_eq_getElem_cons hj, wgo, if_neg]
  unfold bt at hb
  rw [List.getD_eq_getElem?_getD, List.getElem?_eq_getElem hj] at hb
  simp only [blank, Bool.not_eq_true, Bool.or_eq_false_iff, beq_eq_false_iff_ne]
  exact hb
theorem rw_blank {l cur : List UInt8} {j : Nat} {ws : List (List UInt8)} (hj : j < l.length) (hb : bt l j = 32 ∨ bt l j = 9) (h : wordsL l = ws ++ wgo (l.drop j) cur) : wordsL l = ws ++ (if cur = [] then [] else [cur]) ++ wgo (l.drop (j + 1)) [] := by
  rw [h, List.drop_eq_getElem_cons hj, wgo, if_pos]
  · split <;> simp
  · unfold bt at hb
    rw [List.getD_eq_getElem?_getD, List.getElem?_eq_getElem hj] at hb
    simpa [blank] using hb
theorem one_cut {l : List UInt8} {j : Nat} (h : j < l.length) : (l.drop j).take (j + 1 - j) = [l[j]] := by
  rw [show j + 1 - j = 1 by omega, List.drop_eq_getElem_cons h]; rfl

set_option maxRecDepth 100000 in
set_option maxHeartbeats 1000000 in
theorem rwords_any (w : World) (l : List UInt8) (hl : l.length ≤ 1099511627776) :
    Calls Tryd.prog 26 #[.string (bs l)] w (WordsOf w l) := by
  obtain ⟨i, hi, hz0, hz1, hz2⟩ := info_parts info_str
  go_enter Tryd.func26, Tryd.ntmps26
  go_wp2_with fail
  go_loopw [3, 4, 5] (fun b s i w' => RwRel w l b s i w') (fun _ _ i _ => l.length - (intOf i).toNat)
  case atStart => exact ⟨0, [], [], none, 0, rfl, Nat.zero_le _, rfl, rfl, Own.nil_ _ _ _ _, Ext.refl _, Nat.zero_le _, Nat.zero_le _, rfl⟩
  case round =>
    obtain ⟨j, cur, ws, B, d, rfl, hj, rfl, rfl, ho, he, hws, hcur, hwl⟩ := hrel
    have Hwl := Lib.hid hwl
    clear hwl
    by_cases hlt : j < l.length
    · have hix := fun W => str_at (P := Tryd.prog) W _ Tryd.underlying9 l j hlt
      have h256 := bt_lt l j
      by_cases hb : bt l j = 32 ∨ bt l j = 9
      · have Hbk := Lib.hid hb
        by_cases hc : cur = []
        · subst hc
          rcases hb with hb | hb
          all_goals
            rw [hb] at hix
            go_wp2_with fail
            go_roundw
            case rel =>
              have h1 := rw_blank hlt Hbk.out Hwl.out
              rw [if_pos rfl, List.append_nil] at h1
              exact ⟨j + 1, [], ws, B, d, by go_num, hlt, rfl, rfl, ho, he, by omega, by simp, h1⟩
            case measure => simp [intOf]; omega
        · have hce : cur.isEmpty = false := by cases cur <;> simp at hc ⊢
          rcases hb with hb | hb
          all_goals
            rw [hb] at hix
            go_wp2_with (at_builtin; refine wpList_append_new _ rfl _ _ 42 rfl w.heap.size 9 i (.string ByteArray.empty) 1 16 Tryd.underlying42 hi hz0 hz1 hz2 rfl (by decide) B ws.length d _ rfl ho 1 _ rfl rfl (by simp [Value.oneCell']) (by unfold maxLen; omega) (by omega) he.size ?_; intro B' d' w' ho' hg' hw')
            go_roundw
            case rel =>
              have h1 := rw_blank hlt Hbk.out Hwl.out
              rw [if_neg hc] at h1
              refine ⟨j + 1, [], ws ++ [cur], B', d', by go_num, hlt, rfl, by simp, by rw [scs_append]; simpa [scs] using ho', Below.trans he (below_of_grown hg' he.size fun k hk => ?_), by simp; omega, by simp, h1⟩
              rcases B with _ | ⟨b⟩
              · cases hk
              · cases hk; exact (ho.base_le _ rfl).1
            case measure => simp [intOf]; omega
      · have b1 : (((bt l j : Nat) : Int) == 32) = false := by rw [beq_eq_false_iff_ne]; omega
        have b2 : (((bt l j : Nat) : Int) == 9) = false := by rw [beq_eq_false_iff_ne]; omega
        have h3 : ((9223372036854775807 : Nat) < cur.length + 1) = False := eq_false (by omega)
        have h1 := rw_rest hlt (by omega) Hwl.out
        have H1 := Lib.hid h1
        have Hc := Lib.hid (one_cut hlt)
        clear h1 hb Hwl
        go_wp2_with fail
        go_roundw
        case rel => exact ⟨j + 1, cur ++ [l[j]], ws, B, d, by go_num, hlt, by first | rw [Hc.out] | (rw [← Hc.out]; simp), rfl, ho, he, by omega, by simp; omega, H1.out⟩
        case measure => simp [intOf]; omega
    · obtain rfl : j = l.length := by omega
      have hwl := Hwl.out
      rw [List.drop_length] at hwl
      unfold wgo at hwl
      clear Hwl
      by_cases hc : cur = []
      · subst hc
        rw [if_pos rfl, List.append_nil] at hwl
        have Hwl := Lib.hid hwl
        clear hwl
        go_wp2_with fail
        go_ret
        exact ⟨B, d, w.heap.size, by rw [Hwl.out]; rfl, Nat.le_refl _, by rw [Hwl.out]; exact ho, he⟩
      · have hce : cur.isEmpty = false := by cases cur <;> simp at hc ⊢
        rw [if_neg hc] at hwl
        have Hwl := Lib.hid hwl
        clear hwl
        go_wp2_with (at_builtin; refine wpList_append_new _ rfl _ _ 42 rfl w.heap.size 9 i (.string ByteArray.empty) 1 16 Tryd.underlying42 hi hz0 hz1 hz2 rfl (by decide) B ws.length d _ rfl ho 1 _ rfl rfl (by simp [Value.oneCell']) (by unfold maxLen; omega) (by omega) he.size ?_; intro B' d' w' ho' hg' hw')
        go_ret
        refine ⟨B', d', w.heap.size, by rw [Hwl.out, List.length_append]; rfl, Nat.le_refl _, ?_, Below.trans he (below_of_grown hg' he.size fun k hk => by
          rcases B with _ | ⟨b⟩
          · cases hk
          · cases hk; exact (ho.base_le _ rfl).1)⟩
        rw [Hwl.out, scs_append, List.length_append]; exact ho'
end Go.Proofs.YtbmgiidecidojaaDoor
