/- The walk of runes.Number. -/
import Derived.Test.YtbmgiidecidojaaDoorRuneW
import Derived.Test.YtbmgiidecidojaaDoorRuneD
namespace Go.Proofs.YtbmgiidecidojaaDoor
open Go.RowKit

def isDig (b : UInt8) : Bool := decide (48 ≤ b.toNat) && decide (b.toNat ≤ 57)
def vl (n : Nat) (l : List UInt8) : Nat := l.foldl (fun n b => 10 * n + (b.toNat - 48)) n
theorem vl_cons (n : Nat) (b : UInt8) (l : List UInt8) : vl n (b :: l) = vl (10 * n + (b.toNat - 48)) l := by unfold vl; rw [List.foldl_cons]
theorem vl_ge (l : List UInt8) : ∀ n : Nat, n * 10 ^ l.length ≤ vl n l := by
  induction l with
  | nil => intro n; simp [vl]
  | cons b l ih =>
    intro n
    have h := ih (10 * n + (b.toNat - 48))
    rw [vl_cons]
    refine Nat.le_trans ?_ h
    rw [List.length_cons, Nat.pow_succ]
    generalize 10 ^ l.length = x
    have e : n * (x * 10) = 10 * n * x := by rw [Nat.mul_comm x 10, ← Nat.mul_assoc, Nat.mul_comm n 10]
    rw [e, Nat.add_mul]
    exact Nat.le_add_right _ _
theorem vl_le (l : List UInt8) (n : Nat) : n ≤ vl n l := Nat.le_trans (Nat.le_mul_of_pos_right n (Nat.pow_pos (by decide))) (vl_ge l n)
/-- The number of the digits d, with a minus or without. -/
def numD (m : Bool) (d : List UInt8) : Option Int :=
  if d ≠ [] ∧ d.all isDig = true ∧ (bt d 0 = 48 → d.length = 1 ∧ m = false) ∧ vl 0 d ≤ 2147483647 + (if m then 1 else 0) then some (if m then -(vl 0 d : Int) else vl 0 d) else none
/-- The number of a text. -/
def numL (l : List UInt8) : Option Int := if bt l 0 = 45 then numD true l.tail else numD false l

theorem bt_get {l : List UInt8} {p : Nat} (h : p < l.length) : bt l p = l[p].toNat := by
  unfold bt; rw [List.getD_eq_getElem?_getD, List.getElem?_eq_getElem h]; rfl
theorem dig_iff {l : List UInt8} {p : Nat} (h : p < l.length) : isDig l[p] = true ↔ 48 ≤ bt l p ∧ bt l p ≤ 57 := by
  rw [bt_get h]; simp [isDig]
theorem nd_bad {m : Bool} {d : List UInt8} {p : Nat} (hp : p < d.length) (h : bt d p < 48 ∨ 57 < bt d p) : numD m d = none := by
  unfold numD
  rw [if_neg]
  rintro ⟨-, ha, -⟩
  have := (dig_iff hp).mp (List.all_eq_true.mp ha _ (List.getElem_mem hp))
  omega
theorem nd_zero {m : Bool} {d : List UInt8} (hp : 1 < d.length) (h : bt d 0 = 48) : numD m d = none := by
  unfold numD
  rw [if_neg]
  rintro ⟨-, -, hz, -⟩
  have := (hz h).1
  omega
theorem nd_big {m : Bool} {d : List UInt8} (h : 2147483648 < vl 0 d ∨ 2147483647 < vl 0 d ∧ m = false) : numD m d = none := by
  unfold numD
  rw [if_neg]
  rintro ⟨-, -, -, hz⟩
  rcases h with h | ⟨h, rfl⟩
  · cases m <;> simp at hz <;> omega
  · simp at hz; omega
theorem nd_some {m : Bool} {d : List UInt8} (h1 : d ≠ []) (h2 : d.all isDig = true) (h3 : bt d 0 = 48 → d.length = 1 ∧ m = false) (h4 : vl 0 d ≤ 2147483647 + (if m then 1 else 0)) : numD m d = some (if m then -(vl 0 d : Int) else vl 0 d) := by
  unfold numD
  rw [if_pos ⟨h1, h2, h3, h4⟩]

def NumRel (w : World) (d : List UInt8) (n : Value) (w' : World) : Prop :=
  ∃ p v : Nat, w' = w.iter (bs d) p ∧ n = .int .i64 (v : Nat) ∧ p ≤ d.length ∧ vl 0 d = vl v (d.drop p) ∧ (d.take p).all isDig = true ∧ (2 ≤ p → bt d 0 ≠ 48) ∧ (p = 0 → v = 0) ∧ (p = 1 → v = bt d 0 - 48) ∧ v ≤ 21474836479 ∧ (2 ≤ p → 1 ≤ v)

theorem num_next {w : World} {d : List UInt8} {p v : Nat} (hp : p < d.length) (hv : vl 0 d = vl v (d.drop p)) (ha : (d.take p).all isDig = true) (hz : 2 ≤ p → bt d 0 ≠ 48) (h0 : p = 0 → v = 0) (h1 : p = 1 → v = bt d 0 - 48)
    (h2 : 2 ≤ p → 1 ≤ v) (hb0 : 48 ≤ bt d p) (hb1 : bt d p ≤ 57) (hs : p = 1 → v ≠ 0) (hm : v ≤ 2147483647) :
    NumRel w d (.int .i64 (10 * (v : Int) + (((bt d p : Nat) : Int) - 48))) (w.iter (bs d) (p + 1)) := by
  refine ⟨p + 1, 10 * v + (bt d p - 48), rfl, by congr 1; omega, hp, ?_, ?_, ?_, by omega, ?_, by omega, ?_⟩
  · rw [hv, List.drop_eq_getElem_cons hp, vl_cons, bt_get hp]
  · rw [List.take_succ_eq_append_getElem hp, List.all_append, ha]
    simp only [List.all_cons, List.all_nil, Bool.and_true, Bool.true_and]
    exact (dig_iff hp).mpr ⟨hb0, hb1⟩
  · intro _
    by_cases e : p = 1
    · have := h1 e; have := hs e; omega
    · exact hz (by omega)
  · intro e
    obtain rfl : p = 0 := by omega
    rw [h0 rfl]; omega
  · intro _
    by_cases e : p = 1
    · have := hs e; omega
    · have := h2 (by omega); omega

theorem take_digs {d : List UInt8} {p k : Nat} (ha : (d.take p).all isDig = true) (hk : k < p) (hp : p ≤ d.length) : 48 ≤ bt d k ∧ bt d k ≤ 57 := by
  refine (dig_iff (p := k) (by omega)).mp (List.all_eq_true.mp ha _ ?_)
  have h1 : k < (d.take p).length := by rw [List.length_take]; omega
  have h2 : (d.take p)[k] = d[k]'(by omega) := List.getElem_take
  rw [← h2]
  exact List.getElem_mem h1
theorem vl_more {d : List UInt8} {p v : Nat} (hp : p < d.length) (hv : vl 0 d = vl v (d.drop p)) : 10 * v ≤ vl 0 d := by
  rw [hv, List.drop_eq_getElem_cons hp, vl_cons]
  exact Nat.le_trans (Nat.le_add_right _ _) (vl_le _ _)
theorem vl_all {d : List UInt8} {v : Nat} (hv : vl 0 d = vl v (d.drop d.length)) : vl 0 d = v := by
  rw [hv, List.drop_length]; rfl
theorem bt0 {d : List UInt8} {v : Nat} (h1 : d ≠ []) (ha : d.all isDig = true) (hz : 2 ≤ d.length → bt d 0 ≠ 48) (hv1 : d.length = 1 → v = bt d 0 - 48) (hv2 : 2 ≤ d.length → 1 ≤ v) : v = 0 ↔ bt d 0 = 48 := by
  have h0 := List.length_pos_iff.mpr h1
  have h2 := take_digs (d := d) (p := d.length) (k := 0) (by rw [List.take_length]; exact ha) h0 (Nat.le_refl _)
  by_cases e : d.length = 1
  · have := hv1 e; omega
  · have := hz (by omega); have := hv2 (by omega); omega
theorem nd_minus {d : List UInt8} (h : bt d 0 = 48) : numD true d = none := by
  unfold numD
  rw [if_neg]
  rintro ⟨-, -, hz, -⟩
  exact absurd (hz h).2 (by decide)

/-- What runes.Number leaves. -/
def NumOf (w : World) (o : Option Int) (r : Ending) (w' : World) : Prop := r = .returned (.tuple #[.int .i64 (o.getD 0), .bool o.isSome]) ∧ Ext w w'

set_option maxRecDepth 100000 in
set_option maxHeartbeats 4000000 in
theorem number_any (w : World) (l : List UInt8) (hl : l.length ≤ 1099511627776) :
    Calls Tryd.prog 40 #[.string (bs l)] w (NumOf w (numL l)) := by
  unfold numL
  by_cases hm : bt l 0 = 45
  · rw [if_pos hm]
    have h0 : 0 < l.length := by
      rcases Nat.eq_zero_or_pos l.length with h | h
      · rw [List.eq_nil_of_length_eq_zero h] at hm; cases hm
      · exact h
    have hne : l.isEmpty = false := by cases l <;> simp at h0 ⊢
    have hix : ∀ W, (Instr.index 9 (.string (bs l)) (.int .i64 0)).run Tryd.prog W = .ok (.int .u8 45) W := fun W => by
      have h := str_at (P := Tryd.prog) W _ Tryd.underlying9 l 0 h0
      rw [hm] at h
      exact h
    have hdl : l.tail.length ≤ 1099511627776 := by rw [List.length_tail]; omega
    clear hm
    go_enter Tryd.func40, Tryd.ntmps40
    go_wp2_with fail
    generalize l.tail = d at *
    go_loopw [5] (fun n w' => NumRel w d n w') (fun _ w' => d.length - w'.iterPos w.heap.size)
    case atStart => exact ⟨0, 0, rfl, rfl, Nat.zero_le _, rfl, rfl, by omega, fun _ => rfl, by omega, by omega, by omega⟩
    case round =>
      obtain ⟨p, v, rfl, rfl, hp, hv, ha, hz, hv0, hv1, hvm, hv2⟩ := hrel
      have Hv := Lib.hid hv
      have Hz := Lib.hid hz
      have Hv0 := Lib.hid hv0
      have Hv1 := Lib.hid hv1
      have Hv2 := Lib.hid hv2
      have Ha := Lib.hid ha
      clear hv hz hv0 hv1 hv2 ha
      by_cases hlt : p < d.length
      · have hnx := next_yes w d p hlt
        by_cases hb : bt d p < 128
        · have hd : dec (d.drop p) = (bt d p, 1) := by rw [dec_low (by rw [bt_drop]; exact hb), bt_drop]; rfl
          rw [hd] at hnx
          clear hd
          dsimp only at hnx
          obtain ⟨r, hr⟩ : ∃ r, bt d p = r := ⟨_, rfl⟩
          have Hr := Lib.hid hr
          rw [hr] at hnx hb
          clear hr
          by_cases k1 : r < 48
          · have Hn := Lib.hid (nd_bad (m := true) hlt (.inl (by rw [Hr.out]; exact k1)))
            clear hb
            go_wp2_with fail
            go_ret2
            exact ⟨by rw [Hn.out]; rfl, Ext.iter _ _⟩
          by_cases k2 : 57 < r
          · have Hn := Lib.hid (nd_bad (m := true) hlt (.inr (by rw [Hr.out]; exact k2)))
            clear hb
            go_wp2_with fail
            go_ret2
            exact ⟨by rw [Hn.out]; rfl, Ext.iter _ _⟩
          by_cases k3 : p = 1 ∧ v = 0
          · obtain ⟨rfl, rfl⟩ := k3
            have Hn := Lib.hid (nd_zero (m := true) hlt (by have h1 := Hv1.out rfl; have h2 := take_digs Ha.out (k := 0) (by decide) (by omega); omega))
            clear hb
            go_wp2_with fail
            go_ret2
            exact ⟨by rw [Hn.out]; rfl, Ext.iter _ _⟩
          by_cases k4 : 2147483647 < v
          · have Hn := Lib.hid (nd_big (m := true) (d := d) (.inl (by have := vl_more hlt Hv.out; omega)))
            have q1 : ((2147483647 : Int) < v) = True := eq_true (by omega)
            have q2 : ((v : Int) == 0) = false := by rw [beq_eq_false_iff_ne]; omega
            clear hb k3 k4
            go_wp2_with fail
            all_goals
              go_ret2
              exact ⟨by rw [Hn.out]; rfl, Ext.iter _ _⟩
          · have q1 : ((2147483647 : Int) < v) = False := eq_false (by omega)
            have Hs := Lib.hid (show p = 1 → v ≠ 0 from fun e1 e2 => k3 ⟨e1, e2⟩)
            by_cases k5 : p = 1
            · subst k5
              have q2 : ((v : Int) == 0) = false := by rw [beq_eq_false_iff_ne]; have := Hs.out rfl; omega
              clear hb k3
              go_wp2_with fail
              go_roundw
              case rel => have hnn := num_next (w := w) hlt Hv.out Ha.out Hz.out Hv0.out Hv1.out Hv2.out (by rw [Hr.out]; omega) (by rw [Hr.out]; omega) Hs.out (by omega); rw [Hr.out] at hnn; exact hnn
              case measure => simp only [World.iterPos_iter]; omega
            · have q2 : ((p : Int) == 1) = false := by rw [beq_eq_false_iff_ne]; omega
              clear hb k3 k5
              go_wp2_with fail
              go_roundw
              case rel => have hnn := num_next (w := w) hlt Hv.out Ha.out Hz.out Hv0.out Hv1.out Hv2.out (by rw [Hr.out]; omega) (by rw [Hr.out]; omega) Hs.out (by omega); rw [Hr.out] at hnn; exact hnn
              case measure => simp only [World.iterPos_iter]; omega
        · have hh := (dec_high (l := d.drop p) (by rw [bt_drop]; exact (Nat.not_lt.mp hb))).1
          have Hn := Lib.hid (nd_bad (m := true) hlt (.inr (by omega)))
          clear hb
          generalize dec (d.drop p) = dd at *
          go_wp2_with fail
          go_ret2
          exact ⟨by rw [Hn.out]; rfl, Ext.iter _ _⟩
      · obtain rfl : p = d.length := by omega
        have hnx := next_no w d d.length hlt
        have hval := vl_all Hv.out
        have ha := Ha.out
        rw [List.take_length] at ha
        by_cases hne : d = []
        · have Hn : numD true d = none := by unfold numD; rw [if_neg]; exact fun h => h.1 hne
          have Hn := Lib.hid Hn
          have hemp : d.isEmpty = true := by rw [hne]; rfl
          clear ha hval hne
          go_wp2_with fail
          go_ret2
          exact ⟨by rw [Hn.out]; rfl, Ext.iter _ _⟩
        · have hemp : d.isEmpty = false := by rw [List.isEmpty_eq_false_iff]; exact hne
          have h00 := Lib.hid (bt0 hne ha Hz.out Hv1.out Hv2.out)
          have Hval := Lib.hid hval
          have Ha := Lib.hid ha
          clear ha hval
          by_cases g1 : v = 0
          · have Hn := Lib.hid (nd_minus (h00.out.mp g1))
            subst g1
            go_wp2_with fail
            go_ret2
            exact ⟨by rw [Hn.out]; rfl, Ext.iter _ _⟩
          have g2 : (-(v : Int) == 0) = false := by rw [beq_eq_false_iff_ne]; omega
          have g7 : (((v : Int)) == 0) = false := by rw [beq_eq_false_iff_ne]; omega
          by_cases g3 : 2147483648 < v
          · have Hn := Lib.hid (nd_big (m := true) (d := d) (.inl (by rw [Hval.out]; exact g3)))
            have g4 : (-(v : Int) < -2147483648) = True := eq_true (by omega)
            clear g3 g1
            go_wp2_with fail
            go_ret2
            exact ⟨by rw [Hn.out]; rfl, Ext.iter _ _⟩
          · have Hn := Lib.hid (nd_some (m := true) hne Ha.out (fun h => absurd (h00.out.mpr h) g1) (by rw [Hval.out]; simp; omega))
            have g4 : (-(v : Int) < -2147483648) = False := eq_false (by omega)
            have g5 : ((2147483647 : Int) < -(v : Int)) = False := eq_false (by omega)
            clear g3 g1
            go_wp2_with fail
            go_ret2
            exact ⟨by rw [Hn.out, Hval.out]; rfl, Ext.iter _ _⟩
  · rw [if_neg hm]
    have hcase : (l.isEmpty = true ∧ RowKit.Hid (l = [])) ∨ l.isEmpty = false ∧ ∀ W, (Instr.index 9 (.string (bs l)) (.int .i64 0)).run Tryd.prog W = .ok (.int .u8 (bt l 0 : Nat)) W := by
      rcases Nat.eq_zero_or_pos l.length with h | h
      · exact .inl ⟨by rw [List.eq_nil_of_length_eq_zero h]; rfl, Lib.hid (List.eq_nil_of_length_eq_zero h)⟩
      · exact .inr ⟨by cases l <;> simp at h ⊢, fun W => str_at (P := Tryd.prog) W _ Tryd.underlying9 l 0 h⟩
    have hb45 : (((bt l 0 : Nat) : Int) == 45) = false := by rw [beq_eq_false_iff_ne]; omega
    clear hm
    rcases hcase with ⟨hcase, hx⟩ | ⟨hcase, hx⟩
    all_goals
      go_enter Tryd.func40, Tryd.ntmps40
      go_wp2_with fail
      go_loopw [5] (fun n w' => NumRel w l n w') (fun _ w' => l.length - w'.iterPos w.heap.size)
      case atStart => exact ⟨0, 0, rfl, rfl, Nat.zero_le _, rfl, rfl, by omega, fun _ => rfl, by omega, by omega, by omega⟩
      case round =>
        obtain ⟨p, v, rfl, rfl, hp, hv, ha, hz, hv0, hv1, hvm, hv2⟩ := hrel
        have Hv := Lib.hid hv
        have Hz := Lib.hid hz
        have Hv0 := Lib.hid hv0
        have Hv1 := Lib.hid hv1
        have Hv2 := Lib.hid hv2
        have Ha := Lib.hid ha
        clear hv hz hv0 hv1 hv2 ha
        by_cases hlt : p < l.length
        · have hnx := next_yes w l p hlt
          by_cases hb : bt l p < 128
          · have hd : dec (l.drop p) = (bt l p, 1) := by rw [dec_low (by rw [bt_drop]; exact hb), bt_drop]; rfl
            rw [hd] at hnx
            clear hd
            dsimp only at hnx
            obtain ⟨r, hr⟩ : ∃ r, bt l p = r := ⟨_, rfl⟩
            have Hr := Lib.hid hr
            rw [hr] at hnx hb
            clear hr
            by_cases k1 : r < 48
            · have Hn := Lib.hid (nd_bad (m := false) hlt (.inl (by rw [Hr.out]; exact k1)))
              clear hb
              go_wp2_with fail
              go_ret2
              exact ⟨by rw [Hn.out]; rfl, Ext.iter _ _⟩
            by_cases k2 : 57 < r
            · have Hn := Lib.hid (nd_bad (m := false) hlt (.inr (by rw [Hr.out]; exact k2)))
              clear hb
              go_wp2_with fail
              go_ret2
              exact ⟨by rw [Hn.out]; rfl, Ext.iter _ _⟩
            by_cases k3 : p = 1 ∧ v = 0
            · obtain ⟨rfl, rfl⟩ := k3
              have Hn := Lib.hid (nd_zero (m := false) hlt (by have h1 := Hv1.out rfl; have h2 := take_digs Ha.out (k := 0) (by decide) (by omega); omega))
              clear hb
              go_wp2_with fail
              go_ret2
              exact ⟨by rw [Hn.out]; rfl, Ext.iter _ _⟩
            by_cases k4 : 2147483647 < v
            · have Hn := Lib.hid (nd_big (m := false) (d := l) (.inl (by have := vl_more hlt Hv.out; omega)))
              have q1 : ((2147483647 : Int) < v) = True := eq_true (by omega)
              have q2 : ((v : Int) == 0) = false := by rw [beq_eq_false_iff_ne]; omega
              clear hb k3 k4
              go_wp2_with fail
              all_goals
                go_ret2
                exact ⟨by rw [Hn.out]; rfl, Ext.iter _ _⟩
            · have q1 : ((2147483647 : Int) < v) = False := eq_false (by omega)
              have Hs := Lib.hid (show p = 1 → v ≠ 0 from fun e1 e2 => k3 ⟨e1, e2⟩)
              by_cases k5 : p = 1
              · subst k5
                have q2 : ((v : Int) == 0) = false := by rw [beq_eq_false_iff_ne]; have := Hs.out rfl; omega
                clear hb k3
                go_wp2_with fail
                go_roundw
                case rel => have hnn := num_next (w := w) hlt Hv.out Ha.out Hz.out Hv0.out Hv1.out Hv2.out (by rw [Hr.out]; omega) (by rw [Hr.out]; omega) Hs.out (by omega); rw [Hr.out] at hnn; exact hnn
                case measure => simp only [World.iterPos_iter]; omega
              · have q2 : ((p : Int) == 1) = false := by rw [beq_eq_false_iff_ne]; omega
                clear hb k3 k5
                go_wp2_with fail
                go_roundw
                case rel => have hnn := num_next (w := w) hlt Hv.out Ha.out Hz.out Hv0.out Hv1.out Hv2.out (by rw [Hr.out]; omega) (by rw [Hr.out]; omega) Hs.out (by omega); rw [Hr.out] at hnn; exact hnn
                case measure => simp only [World.iterPos_iter]; omega
          · have hh := (dec_high (l := l.drop p) (by rw [bt_drop]; exact (Nat.not_lt.mp hb))).1
            have Hn := Lib.hid (nd_bad (m := false) hlt (.inr (by omega)))
            clear hb
            generalize dec (l.drop p) = dd at *
            go_wp2_with fail
            go_ret2
            exact ⟨by rw [Hn.out]; rfl, Ext.iter _ _⟩
        · obtain rfl : p = l.length := by omega
          have hnx := next_no w l l.length hlt
          have hval := vl_all Hv.out
          have ha := Ha.out
          rw [List.take_length] at ha
          by_cases hne : l = []
          · try (simp [hne] at hcase; done)
            all_goals
              have Hn : numD false l = none := by unfold numD; rw [if_neg]; exact fun h => h.1 hne
              have Hn := Lib.hid Hn
              have hemp : l.isEmpty = true := by rw [hne]; rfl
              clear ha hval hne
              go_wp2_with fail
              go_ret2
              exact ⟨by rw [Hn.out]; rfl, Ext.iter _ _⟩
          · try exact absurd hx.out hne
            all_goals
              have hemp : l.isEmpty = false := by rw [List.isEmpty_eq_false_iff]; exact hne
              have h00 := Lib.hid (bt0 hne ha Hz.out Hv1.out Hv2.out)
              have Hval := Lib.hid hval
              have Ha := Lib.hid ha
              clear ha hval
              have g4 : ((v : Int) < -2147483648) = False := eq_false (by omega)
              by_cases g3 : 2147483647 < v
              · have Hn := Lib.hid (nd_big (m := false) (d := l) (.inr ⟨by rw [Hval.out]; exact g3, rfl⟩))
                have g5 : ((2147483647 : Int) < (v : Int)) = True := eq_true (by omega)
                clear g3
                go_wp2_with fail
                go_ret2
                exact ⟨by rw [Hn.out]; rfl, Ext.iter _ _⟩
              · have Hn := Lib.hid (nd_some (m := false) hne Ha.out (fun h => ⟨by
                  have h0 := List.length_pos_iff.mpr hne
                  by_cases e : l.length = 1
                  · exact e
                  · exact absurd h (Hz.out (by omega)), rfl⟩) (by rw [Hval.out]; simp; omega))
                have g5 : ((2147483647 : Int) < (v : Int)) = False := eq_false (by omega)
                clear g3
                go_wp2_with fail
                go_ret2
                exact ⟨by rw [Hn.out, Hval.out]; rfl, Ext.iter _ _⟩
end Go.Proofs.YtbmgiidecidojaaDoor
