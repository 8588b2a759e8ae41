/- The walk of the reference's Decode. -/
import Derived.Test.YtbmgiidecidojaaDoorRuneV
namespace Go.Proofs.YtbmgiidecidojaaDoor
open Go.RowKit

theorem str_at {P : Program} (w : World) (t : TypeId) (ht : P.underlying t = some .string) (l : List UInt8) (j : Nat) (h : j < l.length) :
    (Instr.index t (.string (bs l)) (.int .i64 (j : Nat))).run P w = .ok (.int .u8 (bt l j : Nat)) w := by
  have hs : j < (bs l).size := by rw [bs_size]; exact h
  rw [run_index_string w t (bs l) .i64 j ht, dif_pos ⟨by omega, by omega⟩]
  have e : ((bs l)[((j : Nat) : Int).toNat]'(by omega)).toNat = bt l j := by
    unfold bt bs
    rw [List.getD_eq_getElem?_getD, List.getElem?_eq_getElem h]
    rfl
  rw [e]

/-- The runes' bits, byte by byte: m: what stays of the first byte. -/
def acc (l : List UInt8) (m : Nat) : Nat → Nat
  | 0 => 0
  | 1 => bt l 0 % m
  | j + 2 => acc l m (j + 1) * 64 + bt l (j + 1) % 64
theorem acc_2 (l : List UInt8) : acc l 32 2 = c2 l := rfl
theorem acc_3 (l : List UInt8) : acc l 16 3 = c3 l := by
  show (bt l 0 % 16 * 64 + bt l 1 % 64) * 64 + bt l 2 % 64 = _
  unfold c3; omega
theorem acc_4 (l : List UInt8) : acc l 8 4 = c4 l := by
  show ((bt l 0 % 8 * 64 + bt l 1 % 64) * 64 + bt l 2 % 64) * 64 + bt l 3 % 64 = _
  unfold c4; omega
theorem dec_c2 {l : List UInt8} (h : bt l 0 / 32 = 6) : dec l = if cnt l 1 ∧ 128 ≤ c2 l then (c2 l, 2) else (65533, 1) := by
  unfold dec
  rw [if_neg (by omega)]
  by_cases h1 : cnt l 1
  · rw [if_pos ⟨h, h1⟩]
    exact ite_way ⟨fun a => ⟨h1, a⟩, fun a => a.2⟩ _ _
  · rw [if_neg (fun a => h1 a.2), if_neg (by omega), if_neg (by omega), if_neg (fun a => h1 a.1)]
theorem dec_c3 {l : List UInt8} (h : bt l 0 / 16 = 14) : dec l = if cnt l 1 ∧ cnt l 2 ∧ 2048 ≤ c3 l ∧ ¬ (55296 ≤ c3 l ∧ c3 l < 57344) then (c3 l, 3) else (65533, 1) := by
  unfold dec
  rw [if_neg (by omega), if_neg (by omega)]
  by_cases h1 : cnt l 1 ∧ cnt l 2
  · rw [if_pos ⟨h, h1⟩]
    exact ite_way ⟨fun a => ⟨h1.1, h1.2, a⟩, fun a => a.2.2⟩ _ _
  · rw [if_neg (fun a => h1 a.2), if_neg (by omega), if_neg (fun a => h1 ⟨a.1, a.2.1⟩)]
theorem dec_c4 {l : List UInt8} (h : bt l 0 / 8 = 30) : dec l = if cnt l 1 ∧ cnt l 2 ∧ cnt l 3 ∧ 65536 ≤ c4 l ∧ c4 l ≤ 1114111 then (c4 l, 4) else (65533, 1) := by
  unfold dec
  rw [if_neg (by omega), if_neg (by omega), if_neg (by omega)]
  by_cases h1 : cnt l 1 ∧ cnt l 2 ∧ cnt l 3
  · rw [if_pos ⟨h, h1⟩]
    exact ite_way ⟨fun a => ⟨h1.1, h1.2.1, h1.2.2, a⟩, fun a => a.2.2.2⟩ _ _
  · rw [if_neg (fun a => h1 a.2), if_neg (fun a => h1 ⟨a.1, a.2.1, a.2.2.1⟩)]
theorem dec_no {l : List UInt8} (h0 : 128 ≤ bt l 0) (h : bt l 0 < 192 ∨ 248 ≤ bt l 0) : dec l = (65533, 1) := by
  have := bt_lt l 0
  unfold dec
  rw [if_neg (by omega), if_neg (by omega), if_neg (by omega), if_neg (by omega)]
theorem not_cnt {l : List UInt8} {k : Nat} (h : l.length ≤ k ∨ bt l k < 128 ∨ 191 < bt l k) : ¬ cnt l k := fun hc => by
  have h1 := hc.1
  have h2 := hc.2
  omega

def DecRel (l : List UInt8) (m n : Nat) (r i : Value) : Prop :=
  ∃ j : Nat, i = .int .i64 (j : Nat) ∧ r = .int .i32 (acc l m j : Nat) ∧ 1 ≤ j ∧ j ≤ n ∧ ∀ k, 1 ≤ k → k < j → cnt l k

set_option maxRecDepth 100000 in
set_option maxHeartbeats 1000000 in
theorem decode_any (w : World) (l : List UInt8) (hl : l.length ≤ 1099511627776) (hl0 : 0 < l.length) :
    Calls Tryd.prog 52 #[.string (bs l)] w fun e w' => e = .returned (.tuple #[.int .i32 ((dec l).1 : Nat), .int .i64 ((dec l).2 : Nat)]) ∧ w = w' := by
  have hsz : (bs l).size = l.length := bs_size l
  have h256 := bt_lt l 0
  have hi0 : ∀ W, (Instr.index 9 (.string (bs l)) (.int .i64 0)).run Tryd.prog W = .ok (.int .u8 (bt l 0 : Nat)) W := fun W => str_at W _ Tryd.underlying9 l 0 hl0
  have hne : l.isEmpty = false := by
    cases l
    · simp at hl0
    · rfl
  have hix : ∀ j, j < l.length → ∀ W, (Instr.index 9 (.string (bs l)) (.int .i64 (j : Nat))).run Tryd.prog W = .ok (.int .u8 (bt l j : Nat)) W := fun j hj W => str_at W _ Tryd.underlying9 l j hj
  have Hix := Lib.hid hix
  clear hix hsz
  by_cases h1 : bt l 0 < 128
  · rw [dec_low h1]
    go_enter Tryd.func52, Tryd.ntmps52
    go_wp2_with fail
    go_ret2
    exact ⟨rfl, rfl⟩
  by_cases h2 : bt l 0 < 192
  · rw [dec_no (by omega) (.inl h2)]
    go_enter Tryd.func52, Tryd.ntmps52
    go_wp2_with fail
    go_ret2
    exact ⟨rfl, rfl⟩
  by_cases h3 : bt l 0 < 224
  · have hd := dec_c2 (l := l) (by omega)
    have hacc := acc_2 l
    by_cases hn : l.length < 2
    · rw [if_neg (fun a => absurd (a.1) (not_cnt (.inl (by omega))))] at hd
      rw [hd]
      clear hd hacc
      go_enter Tryd.func52, Tryd.ntmps52
      go_wp2_with fail
      go_ret2
      exact ⟨rfl, rfl⟩
    · have Hd := Lib.hid hd
      have Ha := Lib.hid hacc
      clear hd hacc
      go_enter Tryd.func52, Tryd.ntmps52
      go_wp2_with fail
      go_loop [7, 8] (fun r i => DecRel l 32 2 r i) (fun _ i => 2 - (intOf i).toNat)
      case atStart => exact ⟨1, rfl, by rw [show ((bt l 0 : Nat) : Int) - 192 = ((acc l 32 1 : Nat) : Int) by simp only [acc]; omega], by decide, by decide, by omega⟩
      case round =>
        obtain ⟨j, rfl, rfl, hj1, hjn, hc⟩ := hrel
        have hacc : acc l 32 j < 2048 := by
          rcases (show j = 1 ∨ j = 2 by omega) with rfl | rfl <;> simp only [acc] <;> omega
        by_cases hj : j < 2
        · have hix := Hix.out j (by omega)
          have h256j := bt_lt l j
          by_cases hb1 : bt l j < 128
          · have hd := Hd.out
            rw [if_neg (fun a => absurd (show cnt l j by rcases (show j = 1 by omega) with rfl <;> first | exact a.1 | exact a.2.1 | exact a.2.2.1) (not_cnt (.inr (.inl hb1))))] at hd
            have Hr := Lib.hid hd
            clear hd hc hacc
            go_wp2_with fail
            go_ret2
            exact ⟨by rw [Hr.out]; rfl, rfl⟩
          by_cases hb2 : 191 < bt l j
          · have hd := Hd.out
            rw [if_neg (fun a => absurd (show cnt l j by rcases (show j = 1 by omega) with rfl <;> first | exact a.1 | exact a.2.1 | exact a.2.2.1) (not_cnt (.inr (.inr hb2))))] at hd
            have Hr := Lib.hid hd
            clear hd hc hacc
            go_wp2_with fail
            go_ret2
            exact ⟨by rw [Hr.out]; rfl, rfl⟩
          · have hstep : acc l 32 (j + 1) = acc l 32 j * 64 + bt l j % 64 := by obtain ⟨j, rfl⟩ : ∃ k, j = k + 1 := ⟨j - 1, by omega⟩; rfl
            have hacc1 : acc l 32 j < 32 := by
              rcases (show j = 1 by omega) with rfl <;> simp only [acc] <;> omega
            have Hc := Lib.hid hc
            clear hc hacc
            go_wp2_with fail
            go_round
            case rel =>
              refine ⟨_, _, _, _, ⟨j + 1, by go_num, ?_, by omega, by omega, fun k k1 k2 => ?_⟩, rfl, rfl, rfl, rfl⟩
              · rw [hstep]; congr 1; omega
              · by_cases hkj : k = j
                · subst hkj; exact ⟨by omega, by omega⟩
                · exact Hc.out k k1 (by omega)
            case measure => simp [intOf]; omega
        · obtain rfl : j = 2 := by omega
          have hcs : cnt l 1 := hc 1 (by decide) (by decide)
          have hd : dec l = if 128 ≤ acc l 32 2 ∧ ¬ (55296 ≤ acc l 32 2 ∧ acc l 32 2 < 57344) ∧ acc l 32 2 ≤ 1114111 then (acc l 32 2, 2) else (65533, 1) := by
            rw [Hd.out, ← Ha.out]
            refine ite_way ?_ _ _
            constructor
            · intro h; exact ⟨h.2, by omega, by omega⟩
            · intro h; exact ⟨hcs, h.1⟩
          clear hc Hd Ha Hix hcs
          generalize acc l 32 2 = x at *
          by_cases x1 : x < 128
          · rw [if_neg (by omega)] at hd
            have Hr := Lib.hid hd
            clear hd
            have q1 : ((x : Int) < 128) = True := eq_true (by omega)
            clear x1
            go_wp2_with fail
            go_ret2
            exact ⟨by rw [Hr.out]; rfl, rfl⟩
          have q1 : ((x : Int) < 128) = False := eq_false (by omega)
          by_cases x2 : 1114111 < x
          · rw [if_neg (by omega)] at hd
            have Hr := Lib.hid hd
            clear hd
            have q2 : ((1114111 : Int) < x) = True := eq_true (by omega)
            clear x1 x2
            go_wp2_with fail
            go_ret2
            exact ⟨by rw [Hr.out]; rfl, rfl⟩
          have q2 : ((1114111 : Int) < x) = False := eq_false (by omega)
          by_cases x3 : x < 55296
          · rw [if_pos (by omega)] at hd
            have Hr := Lib.hid hd
            clear hd
            have q3 : ((55296 : Int) ≤ x) = False := eq_false (by omega)
            clear x1 x2 x3
            go_wp2_with fail
            go_ret2
            exact ⟨by rw [Hr.out]; rfl, rfl⟩
          have q3 : ((55296 : Int) ≤ x) = True := eq_true (by omega)
          by_cases x4 : x < 57344
          · rw [if_neg (by omega)] at hd
            have Hr := Lib.hid hd
            clear hd
            have q4 : ((x : Int) < 57344) = True := eq_true (by omega)
            clear x1 x2 x3 x4
            go_wp2_with fail
            go_ret2
            exact ⟨by rw [Hr.out]; rfl, rfl⟩
          · rw [if_pos (by omega)] at hd
            have Hr := Lib.hid hd
            clear hd
            have q4 : ((x : Int) < 57344) = False := eq_false (by omega)
            clear x1 x2 x3 x4
            go_wp2_with fail
            go_ret2
            exact ⟨by rw [Hr.out]; rfl, rfl⟩
  by_cases h4 : bt l 0 < 240
  · have hd := dec_c3 (l := l) (by omega)
    have hacc := acc_3 l
    by_cases hn : l.length < 3
    · rw [if_neg (fun a => absurd (a.2.1) (not_cnt (.inl (by omega))))] at hd
      rw [hd]
      clear hd hacc
      go_enter Tryd.func52, Tryd.ntmps52
      go_wp2_with fail
      go_ret2
      exact ⟨rfl, rfl⟩
    · have Hd := Lib.hid hd
      have Ha := Lib.hid hacc
      clear hd hacc
      go_enter Tryd.func52, Tryd.ntmps52
      go_wp2_with fail
      go_loop [7, 8] (fun r i => DecRel l 16 3 r i) (fun _ i => 3 - (intOf i).toNat)
      case atStart => exact ⟨1, rfl, by rw [show ((bt l 0 : Nat) : Int) - 224 = ((acc l 16 1 : Nat) : Int) by simp only [acc]; omega], by decide, by decide, by omega⟩
      case round =>
        obtain ⟨j, rfl, rfl, hj1, hjn, hc⟩ := hrel
        have hacc : acc l 16 j < 65536 := by
          rcases (show j = 1 ∨ j = 2 ∨ j = 3 by omega) with rfl | rfl | rfl <;> simp only [acc] <;> omega
        by_cases hj : j < 3
        · have hix := Hix.out j (by omega)
          have h256j := bt_lt l j
          by_cases hb1 : bt l j < 128
          · have hd := Hd.out
            rw [if_neg (fun a => absurd (show cnt l j by rcases (show j = 1 ∨ j = 2 by omega) with rfl | rfl <;> first | exact a.1 | exact a.2.1 | exact a.2.2.1) (not_cnt (.inr (.inl hb1))))] at hd
            have Hr := Lib.hid hd
            clear hd hc hacc
            go_wp2_with fail
            go_ret2
            exact ⟨by rw [Hr.out]; rfl, rfl⟩
          by_cases hb2 : 191 < bt l j
          · have hd := Hd.out
            rw [if_neg (fun a => absurd (show cnt l j by rcases (show j = 1 ∨ j = 2 by omega) with rfl | rfl <;> first | exact a.1 | exact a.2.1 | exact a.2.2.1) (not_cnt (.inr (.inr hb2))))] at hd
            have Hr := Lib.hid hd
            clear hd hc hacc
            go_wp2_with fail
            go_ret2
            exact ⟨by rw [Hr.out]; rfl, rfl⟩
          · have hstep : acc l 16 (j + 1) = acc l 16 j * 64 + bt l j % 64 := by obtain ⟨j, rfl⟩ : ∃ k, j = k + 1 := ⟨j - 1, by omega⟩; rfl
            have hacc1 : acc l 16 j < 1024 := by
              rcases (show j = 1 ∨ j = 2 by omega) with rfl | rfl <;> simp only [acc] <;> omega
            have Hc := Lib.hid hc
            clear hc hacc
            go_wp2_with fail
            go_round
            case rel =>
              refine ⟨_, _, _, _, ⟨j + 1, by go_num, ?_, by omega, by omega, fun k k1 k2 => ?_⟩, rfl, rfl, rfl, rfl⟩
              · rw [hstep]; congr 1; omega
              · by_cases hkj : k = j
                · subst hkj; exact ⟨by omega, by omega⟩
                · exact Hc.out k k1 (by omega)
            case measure => simp [intOf]; omega
        · obtain rfl : j = 3 := by omega
          have hcs : cnt l 1 ∧ cnt l 2 := ⟨hc 1 (by decide) (by decide), hc 2 (by decide) (by decide)⟩
          have hd : dec l = if 2048 ≤ acc l 16 3 ∧ ¬ (55296 ≤ acc l 16 3 ∧ acc l 16 3 < 57344) ∧ acc l 16 3 ≤ 1114111 then (acc l 16 3, 3) else (65533, 1) := by
            rw [Hd.out, ← Ha.out]
            refine ite_way ?_ _ _
            constructor
            · intro h; exact ⟨h.2.2.1, h.2.2.2, by omega⟩
            · intro h; exact ⟨hcs.1, hcs.2, h.1, h.2.1⟩
          clear hc Hd Ha Hix hcs
          generalize acc l 16 3 = x at *
          by_cases x1 : x < 2048
          · rw [if_neg (by omega)] at hd
            have Hr := Lib.hid hd
            clear hd
            have q1 : ((x : Int) < 2048) = True := eq_true (by omega)
            clear x1
            go_wp2_with fail
            go_ret2
            exact ⟨by rw [Hr.out]; rfl, rfl⟩
          have q1 : ((x : Int) < 2048) = False := eq_false (by omega)
          by_cases x2 : 1114111 < x
          · rw [if_neg (by omega)] at hd
            have Hr := Lib.hid hd
            clear hd
            have q2 : ((1114111 : Int) < x) = True := eq_true (by omega)
            clear x1 x2
            go_wp2_with fail
            go_ret2
            exact ⟨by rw [Hr.out]; rfl, rfl⟩
          have q2 : ((1114111 : Int) < x) = False := eq_false (by omega)
          by_cases x3 : x < 55296
          · rw [if_pos (by omega)] at hd
            have Hr := Lib.hid hd
            clear hd
            have q3 : ((55296 : Int) ≤ x) = False := eq_false (by omega)
            clear x1 x2 x3
            go_wp2_with fail
            go_ret2
            exact ⟨by rw [Hr.out]; rfl, rfl⟩
          have q3 : ((55296 : Int) ≤ x) = True := eq_true (by omega)
          by_cases x4 : x < 57344
          · rw [if_neg (by omega)] at hd
            have Hr := Lib.hid hd
            clear hd
            have q4 : ((x : Int) < 57344) = True := eq_true (by omega)
            clear x1 x2 x3 x4
            go_wp2_with fail
            go_ret2
            exact ⟨by rw [Hr.out]; rfl, rfl⟩
          · rw [if_pos (by omega)] at hd
            have Hr := Lib.hid hd
            clear hd
            have q4 : ((x : Int) < 57344) = False := eq_false (by omega)
            clear x1 x2 x3 x4
            go_wp2_with fail
            go_ret2
            exact ⟨by rw [Hr.out]; rfl, rfl⟩
  by_cases h5 : bt l 0 < 248
  · have hd := dec_c4 (l := l) (by omega)
    have hacc := acc_4 l
    by_cases hn : l.length < 4
    · rw [if_neg (fun a => absurd (a.2.2.1) (not_cnt (.inl (by omega))))] at hd
      rw [hd]
      clear hd hacc
      go_enter Tryd.func52, Tryd.ntmps52
      go_wp2_with fail
      go_ret2
      exact ⟨rfl, rfl⟩
    · have Hd := Lib.hid hd
      have Ha := Lib.hid hacc
      clear hd hacc
      go_enter Tryd.func52, Tryd.ntmps52
      go_wp2_with fail
      go_loop [7, 8] (fun r i => DecRel l 8 4 r i) (fun _ i => 4 - (intOf i).toNat)
      case atStart => exact ⟨1, rfl, by rw [show ((bt l 0 : Nat) : Int) - 240 = ((acc l 8 1 : Nat) : Int) by simp only [acc]; omega], by decide, by decide, by omega⟩
      case round =>
        obtain ⟨j, rfl, rfl, hj1, hjn, hc⟩ := hrel
        have hacc : acc l 8 j < 2097152 := by
          rcases (show j = 1 ∨ j = 2 ∨ j = 3 ∨ j = 4 by omega) with rfl | rfl | rfl | rfl <;> simp only [acc] <;> omega
        by_cases hj : j < 4
        · have hix := Hix.out j (by omega)
          have h256j := bt_lt l j
          by_cases hb1 : bt l j < 128
          · have hd := Hd.out
            rw [if_neg (fun a => absurd (show cnt l j by rcases (show j = 1 ∨ j = 2 ∨ j = 3 by omega) with rfl | rfl | rfl <;> first | exact a.1 | exact a.2.1 | exact a.2.2.1) (not_cnt (.inr (.inl hb1))))] at hd
            have Hr := Lib.hid hd
            clear hd hc hacc
            go_wp2_with fail
            go_ret2
            exact ⟨by rw [Hr.out]; rfl, rfl⟩
          by_cases hb2 : 191 < bt l j
          · have hd := Hd.out
            rw [if_neg (fun a => absurd (show cnt l j by rcases (show j = 1 ∨ j = 2 ∨ j = 3 by omega) with rfl | rfl | rfl <;> first | exact a.1 | exact a.2.1 | exact a.2.2.1) (not_cnt (.inr (.inr hb2))))] at hd
            have Hr := Lib.hid hd
            clear hd hc hacc
            go_wp2_with fail
            go_ret2
            exact ⟨by rw [Hr.out]; rfl, rfl⟩
          · have hstep : acc l 8 (j + 1) = acc l 8 j * 64 + bt l j % 64 := by obtain ⟨j, rfl⟩ : ∃ k, j = k + 1 := ⟨j - 1, by omega⟩; rfl
            have hacc1 : acc l 8 j < 32768 := by
              rcases (show j = 1 ∨ j = 2 ∨ j = 3 by omega) with rfl | rfl | rfl <;> simp only [acc] <;> omega
            have Hc := Lib.hid hc
            clear hc hacc
            go_wp2_with fail
            go_round
            case rel =>
              refine ⟨_, _, _, _, ⟨j + 1, by go_num, ?_, by omega, by omega, fun k k1 k2 => ?_⟩, rfl, rfl, rfl, rfl⟩
              · rw [hstep]; congr 1; omega
              · by_cases hkj : k = j
                · subst hkj; exact ⟨by omega, by omega⟩
                · exact Hc.out k k1 (by omega)
            case measure => simp [intOf]; omega
        · obtain rfl : j = 4 := by omega
          have hcs : cnt l 1 ∧ cnt l 2 ∧ cnt l 3 := ⟨hc 1 (by decide) (by decide), hc 2 (by decide) (by decide), hc 3 (by decide) (by decide)⟩
          have hd : dec l = if 65536 ≤ acc l 8 4 ∧ ¬ (55296 ≤ acc l 8 4 ∧ acc l 8 4 < 57344) ∧ acc l 8 4 ≤ 1114111 then (acc l 8 4, 4) else (65533, 1) := by
            rw [Hd.out, ← Ha.out]
            refine ite_way ?_ _ _
            constructor
            · intro h; exact ⟨h.2.2.2.1, by omega, h.2.2.2.2⟩
            · intro h; exact ⟨hcs.1, hcs.2.1, hcs.2.2, h.1, h.2.2⟩
          clear hc Hd Ha Hix hcs
          generalize acc l 8 4 = x at *
          by_cases x1 : x < 65536
          · rw [if_neg (by omega)] at hd
            have Hr := Lib.hid hd
            clear hd
            have q1 : ((x : Int) < 65536) = True := eq_true (by omega)
            clear x1
            go_wp2_with fail
            go_ret2
            exact ⟨by rw [Hr.out]; rfl, rfl⟩
          have q1 : ((x : Int) < 65536) = False := eq_false (by omega)
          by_cases x2 : 1114111 < x
          · rw [if_neg (by omega)] at hd
            have Hr := Lib.hid hd
            clear hd
            have q2 : ((1114111 : Int) < x) = True := eq_true (by omega)
            clear x1 x2
            go_wp2_with fail
            go_ret2
            exact ⟨by rw [Hr.out]; rfl, rfl⟩
          have q2 : ((1114111 : Int) < x) = False := eq_false (by omega)
          by_cases x3 : x < 55296
          · rw [if_pos (by omega)] at hd
            have Hr := Lib.hid hd
            clear hd
            have q3 : ((55296 : Int) ≤ x) = False := eq_false (by omega)
            clear x1 x2 x3
            go_wp2_with fail
            go_ret2
            exact ⟨by rw [Hr.out]; rfl, rfl⟩
          have q3 : ((55296 : Int) ≤ x) = True := eq_true (by omega)
          by_cases x4 : x < 57344
          · rw [if_neg (by omega)] at hd
            have Hr := Lib.hid hd
            clear hd
            have q4 : ((x : Int) < 57344) = True := eq_true (by omega)
            clear x1 x2 x3 x4
            go_wp2_with fail
            go_ret2
            exact ⟨by rw [Hr.out]; rfl, rfl⟩
          · rw [if_pos (by omega)] at hd
            have Hr := Lib.hid hd
            clear hd
            have q4 : ((x : Int) < 57344) = False := eq_false (by omega)
            clear x1 x2 x3 x4
            go_wp2_with fail
            go_ret2
            exact ⟨by rw [Hr.out]; rfl, rfl⟩
  · rw [dec_no (by omega) (.inr (by omega))]
    go_enter Tryd.func52, Tryd.ntmps52
    go_wp2_with fail
    go_ret2
    exact ⟨rfl, rfl⟩
end Go.Proofs.YtbmgiidecidojaaDoor
