/- The walks of the reference's Decimal and Number. -/
import Derived.Test.YtbmgiidecidojaaDoorRuneQ
namespace Go.Proofs.YtbmgiidecidojaaDoor
open Go.RowKit

def DcRel (n : Int) (w : World) (s m : Value) (w' : World) : Prop :=
  ∃ (k : Int) (t : List UInt8), s = .string (bs t) ∧ m = .int .i64 k ∧ -9223372036854775808 ≤ k ∧ k ≤ 9223372036854775807 ∧ dg0 k.natAbs ++ t = dg0 n.natAbs ∧ t.length ≤ 19 ∧ Ext w w'

theorem dc_next {n k d : Int} {t : List UInt8} (h : dg0 k.natAbs ++ t = dg0 n.natAbs) (hk : k ≠ 0) (h0 : 0 ≤ d) (hd : d.natAbs = k.natAbs % 10) : dg0 (k.tdiv 10).natAbs ++ (UInt8.ofNat (48 + d).toNat :: t) = dg0 n.natAbs := by
  have e1 : (k.tdiv 10).natAbs = k.natAbs / 10 := by rw [Int.natAbs_tdiv]; rfl
  have e2 : (48 + d).toNat = 48 + k.natAbs % 10 := by omega
  rw [← h, dg0_step (k := k.natAbs) (by omega), e1, e2]
  simp
theorem one_byte {w : World} {x : Int} (h0 : 0 ≤ x) (h1 : x < 256) : Rb (w.alloc (.cells #[.int .u8 x] 5)) (some ⟨w.heap.size, 0, none⟩) 1 1 [UInt8.ofNat x.toNat] := by
  refine Rb.of (Rd.made w 5 1 [.int .u8 x] 1 rfl (by decide)) ?_
  have : (UInt8.ofNat x.toNat).toNat = x.toNat := by simp; omega
  simp only [bcs, List.map_cons, List.map_nil, this]
  congr 2; omega

set_option maxRecDepth 100000 in
set_option maxHeartbeats 2000000 in
theorem decimal_any (w : World) (n : Int) (h0 : -9223372036854775808 ≤ n) (h1 : n ≤ 9223372036854775807) :
    Calls Tryd.prog 18 #[.int .i64 n] w fun e w' => e = .returned (.string (bs (decL n))) ∧ Ext w w' := by
  by_cases hz : n = 0
  · subst hz
    go_enter Tryd.func18, Tryd.ntmps18
    go_wp2_with fail
    go_ret
    exact ⟨rfl, Ext.refl _⟩
  have hlen := dg0_len 19 n.natAbs (by omega)
  have bz : (n == 0) = false := by rw [beq_eq_false_iff_ne]; exact hz
  have Hz := Lib.hid hz
  clear hz
  go_enter Tryd.func18, Tryd.ntmps18
  go_wp2_with fail
  go_loopw [3, 4, 5] (fun s m d w' => DcRel n w s m w') (fun _ m _ _ => (intOf m).natAbs)
  case atStart => exact ⟨n, [], rfl, rfl, h0, h1, by simp, by simp, Ext.refl _⟩
  case round =>
    obtain ⟨k, t, rfl, rfl, k0, k1, hdg, ht, he⟩ := hrel
    by_cases hk : k = 0
    · subst hk
      have hd : dg0 n.natAbs = t := by rw [← hdg]; rfl
      have Hd := Lib.hid hd
      clear hd hdg
      have hcat : ((9223372036854775807 : Nat) < 1 + t.length) = False := eq_false (by omega)
      have hdec : decL n = (if n < 0 then [45] else []) ++ t := by
        unfold decL natL
        rw [if_neg (show ¬ n.natAbs = 0 from fun e => Hz.out (Int.natAbs_eq_zero.mp e)), Hd.out]
      have Hdec := Lib.hid hdec
      clear hdec
      by_cases hn : n < 0
      · go_wp2_with fail
        go_ret
        exact ⟨by rw [Hdec.out, if_pos hn]; rfl, he⟩
      · go_wp2_with fail
        go_ret
        exact ⟨by rw [Hdec.out, if_neg (by omega)]; rfl, he⟩
    · have bk : (k != 0) = true := by rw [bne_iff_ne]; exact hk
      have Hdg := Lib.hid hdg
      clear hdg
      have hcat : ((9223372036854775807 : Nat) < 1 + t.length) = False := eq_false (by omega)
      obtain ⟨r, hr⟩ : ∃ r, k.tmod 10 = r := ⟨_, rfl⟩
      obtain ⟨q, hq⟩ : ∃ q, k.tdiv 10 = q := ⟨_, rfl⟩
      have hqa : q.natAbs = k.natAbs / 10 := by rw [← hq, Int.natAbs_tdiv]; rfl
      have hra : r.natAbs = k.natAbs % 10 := by rw [← hr, Int.natAbs_tmod]; rfl
      have hlt : t.length ≤ 18 := by
        have h1 := congrArg List.length Hdg.out
        have h2 := List.length_pos_iff.mpr (dg0_first k.natAbs (by omega)).1
        rw [List.length_append] at h1
        omega
      have hq0 : -9223372036854775808 ≤ q ∧ q ≤ 9223372036854775807 := by omega
      have hrb : -9 ≤ r ∧ r ≤ 9 := by omega
      have Hqa := Lib.hid hqa
      have Hra := Lib.hid hra
      have Hr := Lib.hid hr
      have Hq := Lib.hid hq
      have Hk := Lib.hid hk
      by_cases hs : r < 0
      · have hcv := run_string_of (P := Tryd.prog) _ 51 9 5 Tryd.underlying51 Tryd.underlying5 Tryd.underlying9 _ _ _ _ (one_byte (w := wr) (x := 48 + -r) (by omega) (by omega))
        clear hqa hra hk
        go_wp2_with fail
        go_roundw
        case rel => exact ⟨q, _, rfl, rfl, hq0.1, hq0.2, by rw [← Hq.out]; exact dc_next (d := -r) Hdg.out Hk.out (by omega) (by have := Hra.out; omega), by simp; omega, he.trans (Ext.alloc _ _)⟩
        case measure => have h1 := Hqa.out; have h2 := Hk.out; simp only [intOf]; omega
      · have hcv := run_string_of (P := Tryd.prog) _ 51 9 5 Tryd.underlying51 Tryd.underlying5 Tryd.underlying9 _ _ _ _ (one_byte (w := wr) (x := 48 + r) (by omega) (by omega))
        clear hqa hra hk
        go_wp2_with fail
        go_roundw
        case rel => exact ⟨q, _, rfl, rfl, hq0.1, hq0.2, by rw [← Hq.out]; exact dc_next (d := r) Hdg.out Hk.out (by omega) (by have := Hra.out; omega), by simp; omega, he.trans (Ext.alloc _ _)⟩
        case measure => have h1 := Hqa.out; have h2 := Hk.out; simp only [intOf]; omega

theorem nd_long {m : Bool} {d : List UInt8} (h : 10 < d.length) : numD m d = none := by
  unfold numD
  rw [if_neg]
  rintro ⟨h1, h2, h3, h4⟩
  cases d with
  | nil => simp at h
  | cons b t =>
    rw [List.length_cons] at h
    have h5 : bt (b :: t) 0 ≠ 48 := fun e => by have := (h3 e).1; rw [List.length_cons] at this; omega
    have h6 := take_digs (d := b :: t) (p := (b :: t).length) (k := 0) (by rw [List.take_length]; exact h2) (by simp) (Nat.le_refl _)
    have h7 : bt (b :: t) 0 = b.toNat := rfl
    have h8 := vl_ge t (10 * 0 + (b.toNat - 48))
    rw [← vl_cons] at h8
    have h9 : (10 : Nat) ^ 10 ≤ 10 ^ t.length := Nat.pow_le_pow_right (by omega) (by omega)
    have h10 : 1 * 10 ^ t.length ≤ (10 * 0 + (b.toNat - 48)) * 10 ^ t.length := Nat.mul_le_mul_right _ (by omega)
    cases m <;> simp at h4 <;> omega
/-- What the reference's Number leaves. -/
def RNumOf (w : World) (o : Option Int) (r : Ending) (w' : World) : Prop :=
  ∃ n : Int, r = .returned (.tuple #[.int .i64 n, .bool o.isSome]) ∧ (∀ v, o = some v → n = v) ∧ -10000000000 ≤ n ∧ n ≤ 10000000000 ∧ w = w'
theorem RNumOf.no {w : World} {o : Option Int} (h : o = none) : RNumOf w o (.returned (.tuple #[.int .i64 0, .bool false])) w := by
  subst h
  exact ⟨0, rfl, (fun v h => by cases h), by omega, by omega, rfl⟩
theorem RNumOf.yes {w : World} {m : Bool} {d : List UInt8} (h1 : d ≠ []) (h2 : d.all isDig = true) (h3 : bt d 0 = 48 → d.length = 1 ∧ m = false) {v : Nat} (hv : vl 0 d = v) (hb : v ≤ 10000000000) {n : Int} (hn : n = if m then -(v : Int) else v)
    {b : Bool} (hr : b = (decide (-2147483648 ≤ n) && decide (n ≤ 2147483647))) : RNumOf w (numD m d) (.returned (.tuple #[.int .i64 n, .bool b])) w := by
  subst hr
  by_cases h : v ≤ 2147483647 + (if m then 1 else 0)
  · rw [nd_some h1 h2 h3 (by rw [hv]; exact h), hv]
    refine ⟨n, ?_, (fun x hx => by rw [hn]; injection hx), by split at hn <;> omega, by split at hn <;> omega, rfl⟩
    have : (decide (-2147483648 ≤ n) && decide (n ≤ 2147483647)) = true := by
      simp only [Bool.and_eq_true, decide_eq_true_eq]
      cases m <;> simp at h hn <;> omega
    rw [this]; rfl
  · have hb : numD m d = none := nd_big (by
      rw [hv]
      cases m
      · exact .inr ⟨by simpa using h, rfl⟩
      · exact .inl (by simp at h; omega))
    rw [hb]
    refine ⟨n, ?_, (fun x hx => by cases hx), by split at hn <;> omega, by split at hn <;> omega, rfl⟩
    have : (decide (-2147483648 ≤ n) && decide (n ≤ 2147483647)) = false := by
      rw [Bool.and_eq_false_iff]
      simp only [decide_eq_false_iff_not]
      cases m <;> simp at h hn <;> omega
    rw [this]; rfl
def RnRel (d : List UInt8) (n i : Value) : Prop := ∃ j v : Nat, i = .int .i64 (j : Nat) ∧ n = .int .i64 (v : Nat) ∧ j ≤ d.length ∧ vl 0 d = vl v (d.drop j) ∧ (d.take j).all isDig = true ∧ v < 10 ^ j
theorem rn_next {d : List UInt8} {j v : Nat} (hj : j < d.length) (hv : vl 0 d = vl v (d.drop j)) (ha : (d.take j).all isDig = true) (hp : v < 10 ^ j) (h0 : 48 ≤ bt d j) (h1 : bt d j ≤ 57) : RnRel d (.int .i64 ((v : Int) * 10 + ((bt d j : Nat) - 48))) (.int .i64 ((j : Int) + 1)) := by
  refine ⟨j + 1, 10 * v + (bt d j - 48), by go_num, by congr 1; omega, hj, ?_, ?_, ?_⟩
  · rw [hv, List.drop_eq_getElem_cons hj, vl_cons, bt_get hj]
  · rw [List.take_succ_eq_append_getElem hj, List.all_append, ha]
    simp only [List.all_cons, List.all_nil, Bool.and_true, Bool.true_and]
    exact (dig_iff hj).mpr ⟨h0, h1⟩
  · rw [Nat.pow_succ]; omega
theorem pow10 {j : Nat} {v : Nat} (h : v < 10 ^ j) (hj : j ≤ 10) : v < 10000000000 := Nat.lt_of_lt_of_le h (Nat.le_trans (Nat.pow_le_pow_right (by omega) hj) (by decide))

set_option maxRecDepth 100000 in
set_option maxHeartbeats 4000000 in
theorem rnumber_any (w : World) (l : List UInt8) (hl : l.length ≤ 1099511627776) :
    Calls Tryd.prog 42 #[.string (bs l)] w (RNumOf w (numL l)) := by
  by_cases hne : l = []
  · subst hne
    go_enter Tryd.func42, Tryd.ntmps42
    go_wp2_with fail
    go_ret2
    exact RNumOf.no rfl
  have h0 := List.length_pos_iff.mpr hne
  clear hne
  unfold numL
  by_cases hm : bt l 0 = 45
  · rw [if_pos hm]
    obtain ⟨d, rfl⟩ : ∃ d, l = 45 :: d := by
      cases l with
      | nil => simp at h0
      | cons b d => exact ⟨d, by rw [bt_cons] at hm; rw [UInt8.toNat_inj.mp (show b.toNat = (45 : UInt8).toNat from hm)]⟩
    have hix : ∀ W, (Instr.index 9 (.string (bs (45 :: d))) (.int .i64 0)).run Tryd.prog W = .ok (.int .u8 45) W := fun W => str_at (P := Tryd.prog) W _ Tryd.underlying9 (45 :: d) 0 h0
    show Calls Tryd.prog 42 #[.string (bs (45 :: d))] w (RNumOf w (numD true d))
    rw [List.length_cons] at hl
    clear hm h0
    by_cases c1 : d.length < 1
    · have hn : numD true d = none := by rw [List.eq_nil_of_length_eq_zero (show d.length = 0 by omega)]; rfl
      have Hn := Lib.hid hn
      clear hn
      go_enter Tryd.func42, Tryd.ntmps42
      go_wp2_with fail
      go_ret2
      exact RNumOf.no Hn.out
    by_cases c2 : 10 < d.length
    · have Hn := Lib.hid (nd_long (m := true) c2)
      go_enter Tryd.func42, Tryd.ntmps42
      go_wp2_with fail
      go_ret2
      exact RNumOf.no Hn.out
    have hix2 : ∀ W, (Instr.index 9 (.string (bs d)) (.int .i64 0)).run Tryd.prog W = .ok (.int .u8 (bt d 0 : Nat)) W := fun W => str_at (P := Tryd.prog) W _ Tryd.underlying9 d 0 (by omega)
    by_cases c3 : bt d 0 = 48
    · have Hn := Lib.hid (nd_minus c3)
      rw [c3] at hix2
      clear c3
      go_enter Tryd.func42, Tryd.ntmps42
      go_wp2_with fail
      all_goals
        go_ret2
        exact RNumOf.no Hn.out
    have b3 : (((bt d 0 : Nat) : Int) == 48) = false := by rw [beq_eq_false_iff_ne]; omega
    have H3 := Lib.hid c3
    clear c3
    go_enter Tryd.func42, Tryd.ntmps42
    go_wp2_with fail
    go_loop [5, 6] (fun n i => RnRel d n i) (fun _ i => d.length - (intOf i).toNat)
    case atStart => exact ⟨0, 0, rfl, rfl, Nat.zero_le _, rfl, rfl, by simp⟩
    case round =>
      obtain ⟨j, v, rfl, rfl, hj, hv, ha, hp⟩ := hrel
      have Hv := Lib.hid hv
      have Ha := Lib.hid ha
      have hp' := pow10 hp (by omega)
      have Hp := Lib.hid hp
      clear hv ha hp
      by_cases hlt : j < d.length
      · have hix3 := fun W => str_at (P := Tryd.prog) W _ Tryd.underlying9 d j hlt
        by_cases k1 : bt d j < 48
        · have Hn := Lib.hid (nd_bad (m := true) hlt (.inl k1))
          generalize bt d j = c at *
          go_wp2_with fail
          go_ret2
          exact RNumOf.no Hn.out
        by_cases k2 : 57 < bt d j
        · have Hn := Lib.hid (nd_bad (m := true) hlt (.inr k2))
          generalize bt d j = c at *
          go_wp2_with fail
          go_ret2
          exact RNumOf.no Hn.out
        · have Hr := Lib.hid (rn_next hlt Hv.out Ha.out Hp.out (by omega) (by omega))
          generalize bt d j = c at *
          go_wp2_with fail
          go_round
          case rel => exact Hr.out
          case measure => simp [intOf]; omega
      · obtain rfl : j = d.length := by omega
        have hva := vl_all Hv.out
        have ha := Ha.out
        rw [List.take_length] at ha
        have hd0 : d ≠ [] := by intro e; subst e; exact c1 (by simp)
        have Hfin := fun (b : Bool) hb => RNumOf.yes (w := w) (m := true) (n := -(v : Int)) (b := b) hd0 ha (fun e => absurd e H3.out) hva (by omega) rfl hb
        have Hf := Lib.hid Hfin
        clear Hfin hva ha hd0
        clear Hv Hp Ha
        by_cases g : -2147483648 ≤ -(v : Int)
        · have g2 : -(v : Int) ≤ 2147483647 := by omega
          go_wp2_with fail
          go_ret2
          exact Hf.out _ (by simp; omega)
        · go_wp2_with fail
          go_ret2
          exact Hf.out _ (by simp; omega)
  · rw [if_neg hm]
    have b45 : (((bt l 0 : Nat) : Int) == 45) = false := by rw [beq_eq_false_iff_ne]; omega
    have hix : ∀ W, (Instr.index 9 (.string (bs l)) (.int .i64 0)).run Tryd.prog W = .ok (.int .u8 (bt l 0 : Nat)) W := fun W => str_at (P := Tryd.prog) W _ Tryd.underlying9 l 0 h0
    clear hm
    by_cases c2 : 10 < l.length
    · have Hn := Lib.hid (nd_long (m := false) c2)
      go_enter Tryd.func42, Tryd.ntmps42
      go_wp2_with fail
      go_ret2
      exact RNumOf.no Hn.out
    by_cases c3 : bt l 0 = 48 ∧ 1 < l.length
    · have Hn := Lib.hid (nd_zero (m := false) c3.2 c3.1)
      have c4 := c3.2
      rw [c3.1] at hix b45
      clear c3
      go_enter Tryd.func42, Tryd.ntmps42
      go_wp2_with fail
      all_goals
        go_ret2
        exact RNumOf.no Hn.out
    have hways : l.length ≤ 1 ∧ (((bt l 0 : Nat) : Int) == 48) = true ∨ (((bt l 0 : Nat) : Int) == 48) = false := by
      by_cases e : bt l 0 = 48
      · exact .inl ⟨by omega, by rw [e]; rfl⟩
      · exact .inr (by rw [beq_eq_false_iff_ne]; omega)
    have H3 := Lib.hid c3
    clear c3
    rcases hways with ⟨w1, w2⟩ | w2
    all_goals
      go_enter Tryd.func42, Tryd.ntmps42
      go_wp2_with fail
      go_loop [5, 6] (fun n i => RnRel l n i) (fun _ i => l.length - (intOf i).toNat)
      case atStart => exact ⟨0, 0, rfl, rfl, Nat.zero_le _, rfl, rfl, by simp⟩
      case round =>
        obtain ⟨j, v, rfl, rfl, hj, hv, ha, hp⟩ := hrel
        have Hv := Lib.hid hv
        have Ha := Lib.hid ha
        have hp' := pow10 hp (by omega)
        have Hp := Lib.hid hp
        clear hv ha hp
        by_cases hlt : j < l.length
        · have hix3 := fun W => str_at (P := Tryd.prog) W _ Tryd.underlying9 l j hlt
          by_cases k1 : bt l j < 48
          · have Hn := Lib.hid (nd_bad (m := false) hlt (.inl k1))
            generalize bt l j = c at *
            go_wp2_with fail
            go_ret2
            exact RNumOf.no Hn.out
          by_cases k2 : 57 < bt l j
          · have Hn := Lib.hid (nd_bad (m := false) hlt (.inr k2))
            generalize bt l j = c at *
            go_wp2_with fail
            go_ret2
            exact RNumOf.no Hn.out
          · have Hr := Lib.hid (rn_next hlt Hv.out Ha.out Hp.out (by omega) (by omega))
            generalize bt l j = c at *
            go_wp2_with fail
            go_round
            case rel => exact Hr.out
            case measure => simp [intOf]; omega
        · obtain rfl : j = l.length := by omega
          have hva := vl_all Hv.out
          have ha := Ha.out
          rw [List.take_length] at ha
          have hd0 : l ≠ [] := by intro e; subst e; simp at h0
          have Hfin := fun (b : Bool) hb => RNumOf.yes (w := w) (m := false) (n := (v : Int)) (b := b) hd0 ha (fun e => ⟨by have := H3.out; omega, rfl⟩) hva (by omega) rfl hb
          have Hf := Lib.hid Hfin
          clear Hfin hva ha hd0
          clear Hv Hp Ha
          have g2 : -2147483648 ≤ (v : Int) := by omega
          by_cases g : (v : Int) ≤ 2147483647
          · go_wp2_with fail
            go_ret2
            exact Hf.out _ (by simp; omega)
          · go_wp2_with fail
            go_ret2
            exact Hf.out _ (by simp; omega)
end Go.Proofs.YtbmgiidecidojaaDoor
