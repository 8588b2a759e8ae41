/- The walk of the law RunesBytes. -/
import Derived.Test.YtmlmeikfgbkhhaaRuneL1
import Derived.Test.YtmlmeikfgbkhhaaReg
namespace Go.Proofs.Ytmlmeikfgbkhhaa
open Go.RowKit

set_option maxRecDepth 100000 in
set_option maxHeartbeats 4000000 in
theorem bytes_walk (w : World) (a : Nat) (ha : a < 256) (b : Nat) (hb : b < 256) (c : Nat) (hc : c < 256) (d : Nat) (hd : d < 256) :
    Calls Try.prog 6 #[.int .u8 (a : Nat), .int .u8 (b : Nat), .int .u8 (c : Nat), .int .u8 (d : Nat)] w (Yes w) := by
  go_enter Try.func6, Try.ntmps6
  go_wp2_with fail
  refine (begun_any w).mono ?_
  rintro e w1 ⟨rfl, e1⟩
  have e2 := e1.trans (Ext.alloc w1 (.cells #[.int .u8 (a : Nat), .int .u8 (b : Nat), .int .u8 (c : Nat), .int .u8 (d : Nat)] 5))
  have hrd : Rb (w1.alloc (.cells #[.int .u8 (a : Nat), .int .u8 (b : Nat), .int .u8 (c : Nat), .int .u8 (d : Nat)] 5)) (some ⟨w1.heap.size, 0, none⟩) 4 4 [UInt8.ofNat a, UInt8.ofNat b, UInt8.ofNat c, UInt8.ofNat d] := by
    have u : ∀ k, k < 256 → (UInt8.ofNat k).toNat = k := fun k h => by simp [Nat.mod_eq_of_lt h]
    refine Rb.of (Rd.made w1 5 1 _ 4 rfl (by decide)) ?_
    simp only [bcs, List.map_cons, List.map_nil, u a ha, u b hb, u c hc, u d hd]
  have hcv := run_string_of (P := Try.prog) _ 37 9 5 Try.underlying37 Try.underlying5 Try.underlying9 _ _ _ _ hrd
  clear e1
  generalize hl : [UInt8.ofNat a, UInt8.ofNat b, UInt8.ofNat c, UInt8.ofNat d] = l at *
  have hlen : l.length ≤ 1099511627776 := by rw [← hl]; exact Nat.le_trans (Nat.le_refl 4) (by decide)
  have hrl : (rs l).length ≤ 4 := Nat.le_trans (rs_len l) (by rw [← hl]; exact Nat.le_refl 4)
  clear hl hrd
  go_wp2_with fail
  refine (runes_any _ l hlen).mono ?_
  rintro e w3 ⟨B, dd, rfl, ho, e3⟩
  have e4 := e2.trans e3
  clear e2 e3
  go_wp2_with fail
  refine (count_any _ l hlen).mono ?_
  rintro e w5 ⟨rfl, e5⟩
  go_wp2_with fail
  refine (valid_any _ l hlen).mono ?_
  rintro e w6 ⟨rfl, e6⟩
  have ho6 := (ho.ext e5).ext e6
  have e7 := (e4.trans e5).trans e6
  clear e4 e5 e6 ho
  have hne : (goodL l != goodL l) = false := by simp
  go_wp2_with fail
  go_loopw [13] (fun i w' => ∃ j : Nat, i = .int .i64 j ∧ j ≤ (rs l).length ∧ Ext w6 w') (fun i _ => (rs l).length - (intOf i).toNat)
  case atStart => exact ⟨0, rfl, Nat.zero_le _, Ext.refl _⟩
  case round =>
    obtain ⟨j, rfl, hj, hdr⟩ := hrel
    by_cases hlt : j < (rs l).length
    · obtain ⟨b, o, rfl, hc1⟩ := rune_at ho6 hlt
      have Hat := Lib.hid (congrArg (fun x : Nat => (x : Int)) (atL_in (n := (j : Int)) rfl hlt))
      have hcr := hdr.cell hc1
      generalize (rs l)[j] = rr at *
      go_wp2_with fail
      apply wp_region_lex (R := Ext) (by kernel_rfl) (by kernel_rfl) Ext.refl (fun _ _ _ => Ext.trans) (Ext.drew _)
      iterate 2
        apply lex_ex Ext.refl
        · rfl
        · intro W hR hΦ
          go_simp
          first | done | with_reducible rfl
        simp only [Act.put, List.setIfInBounds_toArray, List.set_cons_zero, List.set_cons_succ]
      apply lex_callx (u := .int .i32 (rr.1 : Nat))
      · rfl
      · intro W
        go_simp
        exact ⟨rfl, rfl⟩
      · intro W hR hΦ
        exact (at_is W l hlen (j : Int) (by omega) (by omega) Hat.out).mono fun _ _ hh => ⟨hh.1, hh.2⟩
      simp only [Act.put, List.setIfInBounds_toArray, List.set_cons_zero, List.set_cons_succ]
      repeat
        apply lex_ex Ext.refl
        · rfl
        · intro W hR hΦ
          have hcW := hR.cell hcr
          go_simp
          first | done | with_reducible rfl
        simp only [Act.put, List.setIfInBounds_toArray, List.set_cons_zero, List.set_cons_succ]
      refine lex_nil ?_
      intro W hR _
      go_wp2_with fail
      go_roundw
      case rel => exact ⟨j + 1, by go_num, hlt, hdr.trans hR⟩
      case measure => simp [intOf]; omega
    · obtain rfl : j = (rs l).length := by omega
      have hat1 : (atL l ((rs l).length : Nat) : Int) = 0 := by rw [atL_out (.inr (Int.le_refl _))]; rfl
      have hat2 : (atL l (-1) : Int) = 0 := by rw [atL_out (.inl (by decide))]; rfl
      have Hat1 := Lib.hid hat1
      have Hat2 := Lib.hid hat2
      clear hat1 hat2
      go_wp2_with fail
      refine (at_is _ l hlen _ (by omega) (by omega) Hat1.out).mono ?_
      rintro e w8 ⟨rfl, e8⟩
      go_wp2_with fail
      refine (at_is _ l hlen (-1) (by omega) (by omega) Hat2.out).mono ?_
      rintro e w9 ⟨rfl, e9⟩
      go_wp2_with fail
      go_ret
      exact ⟨rfl, ((e7.trans hdr).trans e8).trans e9⟩
end Go.Proofs.Ytmlmeikfgbkhhaa
