/- The walk of the reference's Title. -/
import Derived.Test.YtbmgiidecidojaaDoorRuneR
namespace Go.Proofs.YtbmgiidecidojaaDoor
open Go.RowKit

theorem rune_at {w : World} {base : Nat} {e : TypeId} {B : Option Addr} {n d : Nat} {xs : List (Nat × Nat)} (h : Own w base e 1 B n d (rcs xs)) {k : Nat} (hk : k < xs.length) :
    ∃ b o, B = some ⟨b, o, none⟩ ∧ w.cell? ⟨b, o + k, none⟩ = some (.int .i32 (xs[k].1 : Nat)) := by
  have hn : n = xs.length := by have := h.rd.1; rw [rcs_length] at this; omega
  obtain ⟨b, o, e1, u, hu, hc⟩ := h.rd.at_ (k := k) (by omega)
  refine ⟨b, o, e1, ?_⟩
  unfold rcs at hu
  rw [List.getElem?_map, List.getElem?_eq_getElem hk] at hu
  rw [hc, ← hu]
  rfl

def TlRel (l : List UInt8) (i : Value) : Prop := ∃ j : Nat, i = .int .i64 j ∧ j ≤ (rs l).length ∧ (rs l).all plainR = ((rs l).drop j).all plainR

set_option maxRecDepth 100000 in
set_option maxHeartbeats 1000000 in
theorem rtitle_any (w : World) (l : List UInt8) (hl : l.length ≤ 1099511627776) :
    Calls Tryd.prog 24 #[.string (bs l)] w fun e w' => e = .returned (.bool (titleL l)) ∧ Ext w w' := by
  go_enter Tryd.func24, Tryd.ntmps24
  go_wp2_with fail
  refine (runes_any w l hl).mono ?_
  rintro e w1 ⟨B, d, rfl, ho, e1⟩
  cases hg : goodL l
  · go_wp2_with fail
    go_ret
    exact ⟨by simp [titleL, hg], e1⟩
  by_cases h1 : (rs l).length < 1
  · go_wp2_with fail
    go_ret
    exact ⟨by simp [titleL]; omega, e1⟩
  by_cases h2 : 20 < (rs l).length
  · go_wp2_with fail
    go_ret
    exact ⟨by simp [titleL]; omega, e1⟩
  go_wp2_with fail
  go_loop [5] (fun i => TlRel l i) (fun i => 20 - (intOf i).toNat)
  case atStart => exact ⟨0, rfl, Nat.zero_le _, rfl⟩
  case round =>
    obtain ⟨j, rfl, hj, ha⟩ := hrel
    by_cases hlt : j < (rs l).length
    · obtain ⟨b, o, rfl, hcell⟩ := rune_at ho hlt
      rw [List.drop_eq_getElem_cons hlt, List.all_cons] at ha
      have Ha := Lib.hid ha
      clear ha
      generalize hx : (rs l)[j] = x at *
      by_cases k1 : x.1 < 32
      · go_wp2_with fail
        go_ret
        have : plainR x = false := by simp [plainR]; omega
        exact ⟨by simp [titleL, Ha.out, this], e1⟩
      by_cases k2 : x.1 = 127
      · go_wp2_with fail
        go_ret
        have : plainR x = false := by simp [plainR, k2]
        exact ⟨by simp [titleL, Ha.out, this], e1⟩
      · have hb : ((x.1 : Int) == 127) = false := by rw [beq_eq_false_iff_ne]; omega
        have hpl : plainR x = true := by simp [plainR, k2]; omega
        go_wp2_with fail
        go_round
        case rel => exact ⟨j + 1, by go_num, hlt, by rw [Ha.out, hpl]; rfl⟩
        case measure => simp [intOf]; omega
    · have ha' := ha
      rw [List.drop_eq_nil_of_le (by omega)] at ha'
      clear ha
      go_wp2_with fail
      go_ret
      exact ⟨by simp [titleL, ha', hg]; omega, e1⟩
end Go.Proofs.YtbmgiidecidojaaDoor
