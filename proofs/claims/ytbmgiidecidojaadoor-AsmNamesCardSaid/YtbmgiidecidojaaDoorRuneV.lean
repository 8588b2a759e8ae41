/- The walks of package runes: wide, Valid, Title. -/
import Derived.Test.YtbmgiidecidojaaDoorRuneP
import Derived.Test.YtbmgiidecidojaaDoorProg
import Derived.LoopTactic
namespace Go.Proofs.YtbmgiidecidojaaDoor
open Go.RowKit

theorem next_yes (w : World) (l : List UInt8) (p : Nat) (h : p < l.length) (ty : TypeId) :
    (Instr.next (.pointer (some ⟨w.heap.size, 0, none⟩)) true ty).run Tryd.prog (w.iter (bs l) p) =
      .ok (.tuple #[.bool true, .int .i64 p, .int .i32 (dec (l.drop p)).1]) (w.iter (bs l) (p + (dec (l.drop p)).2)) := by
  rw [run_next_any w (bs l) p ty (by rw [bs_size]; exact h), decode_bs]
theorem next_no (w : World) (l : List UInt8) (p : Nat) (h : ¬ p < l.length) (ty : TypeId) :
    (Instr.next (.pointer (some ⟨w.heap.size, 0, none⟩)) true ty).run Tryd.prog (w.iter (bs l) p) = .ok (.tuple #[.bool false]) (w.iter (bs l) p) :=
  run_next_end w (bs l) p ty (by rw [bs_size]; exact h)
theorem Ext.iter {w : World} (s : ByteArray) (p : Nat) : Ext w (w.iter s p) := Ext.alloc w _

def wideI (x : Int) : Int := if x < 128 then 1 else if x < 2048 then 2 else if x < 65536 then 3 else 4
set_option maxRecDepth 100000 in
theorem wide_int (w : World) (x : Int) :
    Calls Tryd.prog 57 #[.int .i32 x] w fun e w' => e = .returned (.int .i64 (wideI x)) ∧ w = w' := by
  unfold wideI
  by_cases h1 : x < 128
  · rw [if_pos h1]
    go_enter Tryd.func57, Tryd.ntmps57
    go_wp2_with fail
    go_ret
    exact ⟨rfl, rfl⟩
  by_cases h2 : x < 2048
  · rw [if_neg h1, if_pos h2]
    go_enter Tryd.func57, Tryd.ntmps57
    go_wp2_with fail
    go_ret
    exact ⟨rfl, rfl⟩
  by_cases h3 : x < 65536
  · rw [if_neg h1, if_neg h2, if_pos h3]
    go_enter Tryd.func57, Tryd.ntmps57
    go_wp2_with fail
    go_ret
    exact ⟨rfl, rfl⟩
  · rw [if_neg h1, if_neg h2, if_neg h3]
    go_enter Tryd.func57, Tryd.ntmps57
    go_wp2_with fail
    go_ret
    exact ⟨rfl, rfl⟩
theorem wide_any (w : World) (r : Nat) : Calls Tryd.prog 57 #[.int .i32 (r : Nat)] w fun e w' => e = .returned (.int .i64 (wideN r : Nat)) ∧ w = w' := by
  have h := wide_int w r
  have e : wideI (r : Nat) = (wideN r : Nat) := by unfold wideI wideN; (repeat' split) <;> omega
  rwa [e] at h

/-- So far all runes stood there. -/
def ValRel (w : World) (l : List UInt8) (n : Value) (w' : World) : Prop :=
  ∃ p : Nat, w' = w.iter (bs l) p ∧ n = .int .i64 p ∧ p ≤ l.length ∧ goodL l = (rs (l.drop p)).all wellR
/-- The last one did not. -/
def ValBad (w : World) (l : List UInt8) (n : Value) (w' : World) : Prop :=
  ∃ p m : Nat, w' = w.iter (bs l) p ∧ n = .int .i64 m ∧ m ≠ p ∧ m ≤ l.length + 4 ∧ p ≤ l.length ∧ goodL l = false
def ValAny (w : World) (l : List UInt8) (n : Value) (w' : World) : Prop := ValRel w l n w' ∨ ValBad w l n w'

theorem well_iff (l : List UInt8) : wellR (dec l) = decide (wideN (dec l).1 = (dec l).2) := by
  rw [Bool.eq_iff_iff, decide_eq_true_iff, dec_wide]
  simp [wellR]

set_option maxRecDepth 100000 in
set_option maxHeartbeats 1000000 in
theorem valid_any (w : World) (l : List UInt8) (hl : l.length ≤ 1099511627776) :
    Calls Tryd.prog 51 #[.string (bs l)] w fun e w' => e = .returned (.bool (goodL l)) ∧ Ext w w' := by
  go_enter Tryd.func51, Tryd.ntmps51
  go_wp2_with fail
  go_loopw [3] (fun n w' => ValAny w l n w') (fun _ w' => l.length - w'.iterPos w.heap.size)
  case atStart => exact .inl ⟨0, rfl, rfl, Nat.zero_le _, rfl⟩
  case round =>
    rcases hrel with ⟨p, rfl, rfl, hp, hg⟩ | ⟨p, m, rfl, rfl, hne, hm, hp, hg⟩
    · by_cases hlt : p < l.length
      · have hnx := next_yes w l p hlt
        have hd := dec_at_le hlt
        have hmost := dec_most (l.drop p)
        have hw := well_iff (l.drop p)
        rw [rs_at hlt, List.all_cons, hw] at hg
        have h4 : wideN (dec (l.drop p)).1 ≤ 4 := by unfold wideN; (repeat' split) <;> omega
        clear hw
        have Hg := Lib.hid hg
        clear hg
        go_wp2_with fail
        refine (wide_any _ _).mono ?_
        rintro e w1 ⟨rfl, rfl⟩
        go_wp2_with fail
        go_roundw
        case rel =>
          have hg := Hg.out
          by_cases hb : wideN (dec (l.drop p)).1 = (dec (l.drop p)).2
          · refine .inl ⟨_, rfl, by rw [← hb]; go_num, hd.2, ?_⟩
            rw [hg]; simp [hb]
          · refine .inr ⟨_, p + wideN (dec (l.drop p)).1, rfl, by go_num, by omega, by omega, hd.2, ?_⟩
            rw [hg]; simp [hb]
        case measure => simp; omega
      · obtain rfl : p = l.length := by omega
        have hnx := next_no w l l.length hlt
        go_wp2_with fail
        go_ret
        rw [rs_end (Nat.le_refl _)] at hg
        exact ⟨by rw [hg]; rfl, Ext.iter _ _⟩
    · by_cases hlt : p < l.length
      · have hnx := next_yes w l p hlt
        have hb : ((p : Int) == (m : Int)) = false := by rw [beq_eq_false_iff_ne]; omega
        go_wp2_with fail
        go_ret
        exact ⟨by rw [hg]; rfl, Ext.iter _ _⟩
      · obtain rfl : p = l.length := by omega
        have hnx := next_no w l l.length hlt
        have hb : ((m : Int) == (l.length : Int)) = false := by rw [beq_eq_false_iff_ne]; omega
        go_wp2_with fail
        go_ret
        exact ⟨by rw [hg]; rfl, Ext.iter _ _⟩

def TitRel (w : World) (l : List UInt8) (n : Value) (w' : World) : Prop :=
  ∃ p k : Nat, w' = w.iter (bs l) p ∧ n = .int .i64 k ∧ k ≤ p ∧ p ≤ l.length ∧ (rs l).length = k + (rs (l.drop p)).length ∧ (rs l).all plainR = (rs (l.drop p)).all plainR

set_option maxRecDepth 100000 in
set_option maxHeartbeats 1000000 in
theorem title_any (w : World) (l : List UInt8) (hl : l.length ≤ 1099511627776) :
    Calls Tryd.prog 37 #[.string (bs l)] w fun e w' => e = .returned (.bool (titleL l)) ∧ Ext w w' := by
  go_enter Tryd.func37, Tryd.ntmps37
  go_wp2_with fail
  go_loopw [3] (fun n w' => TitRel w l n w') (fun _ w' => l.length - w'.iterPos w.heap.size)
  case atStart => exact ⟨0, 0, rfl, rfl, Nat.zero_le _, Nat.zero_le _, by simp, by simp⟩
  case round =>
    obtain ⟨p, k, rfl, rfl, hk, hp, hn, ha⟩ := hrel
    by_cases hlt : p < l.length
    · have hnx := next_yes w l p hlt
      have hd := dec_at_le hlt
      have hmost := dec_most (l.drop p)
      rw [rs_at hlt] at ha hn
      simp only [List.all_cons, List.length_cons] at ha hn
      have Ha := Lib.hid ha
      clear ha
      generalize dec (l.drop p) = d at *
      by_cases h1 : d.1 < 32
      · go_wp2_with fail
        go_ret
        refine ⟨?_, Ext.iter _ _⟩
        have : plainR d = false := by simp [plainR]; omega
        simp [titleL, Ha.out, this]
      · by_cases h2 : d.1 = 127
        · go_wp2_with fail
          go_ret
          refine ⟨?_, Ext.iter _ _⟩
          have : plainR d = false := by simp [plainR, h2]
          simp [titleL, Ha.out, this]
        · have hb : ((d.1 : Int) == 127) = false := by rw [beq_eq_false_iff_ne]; omega
          go_wp2_with fail
          go_roundw
          case rel =>
            refine ⟨_, k + 1, rfl, by go_num, by omega, hd.2, by omega, ?_⟩
            rw [Ha.out]
            have : plainR d = true := by simp [plainR, h2]; omega
            rw [this]; rfl
          case measure => simp; omega
    · obtain rfl : p = l.length := by omega
      have hnx := next_no w l l.length hlt
      rw [rs_end (Nat.le_refl _)] at ha hn
      simp only [List.length_nil, Nat.add_zero] at hn
      have Ha := Lib.hid ha
      clear ha
      by_cases h1 : k < 1
      · go_wp2_with fail
        go_ret
        exact ⟨by simp [titleL]; omega, Ext.iter _ _⟩
      · by_cases h2 : 20 < k
        · go_wp2_with fail
          go_ret
          exact ⟨by simp [titleL]; omega, Ext.iter _ _⟩
        · go_wp2_with fail
          refine (valid_any _ l hl).mono ?_
          rintro e w1 ⟨rfl, e1⟩
          go_wp2_with fail
          go_ret
          exact ⟨by simp [titleL, Ha.out]; omega, (Ext.iter _ _).trans e1⟩
end Go.Proofs.YtbmgiidecidojaaDoor
