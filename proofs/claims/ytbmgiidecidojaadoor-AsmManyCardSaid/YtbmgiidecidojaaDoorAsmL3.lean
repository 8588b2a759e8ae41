/- The walk of the law AsmMany. -/
import Derived.Test.YtbmgiidecidojaaDoorAsmB
import Derived.Test.YtbmgiidecidojaaDoorAsmM
namespace Go.Proofs.YtbmgiidecidojaaDoor
open Go.RowKit

def mnRel (w : World) (g n : Nat) (sv iv : Value) (wr : World) : Prop := ∃ (i : Nat) (S : List UInt8), iv = .int .i64 (i : Nat) ∧ sv = .string (bs S) ∧ i ≤ n ∧ RowKit.Hid (S = joinN (manyT :: manyB g i)) ∧ S.length ≤ 11 + 43 * i ∧ wr = w
def mkRel (w : World) (S0 : List UInt8) (g : Nat) (sv kv : Value) (wr : World) : Prop := ∃ (k : Nat) (S : List UInt8), kv = .int .i64 (k : Nat) ∧ sv = .string (bs S) ∧ k ≤ g ∧ RowKit.Hid (S = S0 ++ joinN (List.replicate k manyN)) ∧ S.length ≤ S0.length + 12 * k ∧ wr = w
theorem many_next (S : List UInt8) (k : Nat) (h : S = joinN (List.replicate k manyN)) : S ++ [32, 32, 35, 32, 110, 111, 116, 104, 105, 110, 103, 10] = joinN (List.replicate (k + 1) manyN) := by
  rw [List.replicate_succ', joinN_append, ← h]; rfl
set_option maxRecDepth 100000 in
set_option maxHeartbeats 8000000 in
theorem many_walk (w : World) (ht : Pow w) (a : Int) (_a0 : -9223372036854775808 ≤ a) (_a1 : a ≤ 9223372036854775807) (b : Int) (_b0 : -9223372036854775808 ≤ b) (_b1 : b ≤ 9223372036854775807) :
    Calls Tryd.prog 8 #[.int .i64 a, .int .i64 b] w (Yes w) := by
  by_cases hr : 0 ≤ a ∧ a ≤ 70 ∧ 0 ≤ b ∧ b ≤ 3
  · obtain ⟨h0, h70, g0, g3⟩ := hr
    obtain ⟨n, rfl⟩ := Int.eq_ofNat_of_zero_le h0
    obtain ⟨g, rfl⟩ := Int.eq_ofNat_of_zero_le g0
    have hn : n ≤ 70 := by omega
    have hg : g ≤ 3 := by omega
    have d1 : decide ((n : Int) < 0) = false := decide_eq_false (by omega)
    have d2 : decide (70 < (n : Int)) = false := decide_eq_false (by omega)
    have d3 : decide ((g : Int) < 0) = false := decide_eq_false (by omega)
    have d4 : decide (3 < (g : Int)) = false := decide_eq_false (by omega)
    have hpm := parse_many g n
    have Hpm := Lib.hid hpm
    clear hpm
    go_enter Tryd.func8, Tryd.ntmps8
    go_wp2_with fail
    refine (begun6_any w ht).mono ?_
    rintro e w1 ⟨rfl, e1⟩
    go_wp2_with fail
    go_loopw [6, 7] (fun sv iv wr => mnRel w1 g n sv iv wr) (fun _ iv _ => n - (intOf iv).toNat)
    case atStart => exact ⟨0, joinN (manyT :: manyB g 0), rfl, rfl, Nat.zero_le _, Lib.hid rfl, by have h0 : manyB g 0 = [] := rfl; rw [h0]; decide, rfl⟩
    case round =>
      obtain ⟨i, S, rfl, rfl, hi, hS, hl, rfl⟩ := hrel
      by_cases hlt : i < n
      · have hi1 : IntKind.i64.wrap ((i : Int) + 1) = (i : Int) + 1 := by rw [IntKind.wrap_i64]; omega
        go_wp2_with fail
        go_loopw [6, 8] (fun sv kv w' => mkRel wr S g sv kv w') (fun _ kv _ => g - (intOf kv).toNat)
        case atStart => exact ⟨0, S, rfl, rfl, Nat.zero_le _, Lib.hid (by simp [joinN]), by omega, rfl⟩
        case round =>
          obtain ⟨k, S', rfl, rfl, hk, hS', hl', rfl⟩ := hrel
          by_cases hkg : k < g
          · have hc : ((9223372036854775807 : Nat) < S'.length + 12) = False := eq_false (by omega)
            have hk1 : IntKind.i64.wrap ((k : Int) + 1) = (k : Int) + 1 := by rw [IntKind.wrap_i64]; omega
            have Hv := Lib.hid (show bs S' ++ ({ data := #[32, 32, 35, 32, 110, 111, 116, 104, 105, 110, 103, 10] } : ByteArray) = bs (S' ++ [32, 32, 35, 32, 110, 111, 116, 104, 105, 110, 103, 10]) by
              rw [← bs_add]; rfl)
            go_wp2_with fail
            go_roundw
            case rel => exact ⟨k + 1, S' ++ [32, 32, 35, 32, 110, 111, 116, 104, 105, 110, 103, 10], by go_num, congrArg Value.string Hv.out, hkg, Lib.hid (by rw [hS'.out, List.append_assoc, many_next _ k rfl]), by simp; omega, rfl⟩
            case measure => simp [intOf]; omega
          · obtain rfl : k = g := by omega
            have hc : ((9223372036854775807 : Nat) < S'.length + 7) = False := eq_false (by omega)
            have Hv := Lib.hid (show bs S' ++ ({ data := #[116, 105, 109, 101, 32, 51, 10] } : ByteArray) = bs (S' ++ [116, 105, 109, 101, 32, 51, 10]) by
              rw [← bs_add]; rfl)
            go_wp2_with fail
            go_roundw
            case rel =>
              refine ⟨i + 1, S' ++ [116, 105, 109, 101, 32, 51, 10], by go_num, congrArg Value.string Hv.out, hlt, Lib.hid ?_, by simp; omega, rfl⟩
              rw [hS'.out, hS.out, manyB_back, joinN_cons, joinN_cons, joinN_append, joinN_append]
              simp [joinN, manyO]
            case measure => simp [intOf]; omega
      · obtain rfl : i = n := by omega
        have hS2 := hS.out
        have hsl : S.length ≤ 1099511627776 := by omega
        rw [← hS2] at Hpm
        have hpm := Hpm.out
        clear hS hS2 Hpm
        by_cases h0 : i = 0
        · rw [if_pos h0] at hpm
          subst h0
          have hcall := fun W => aparse_no W S hsl hpm
          go_wp2_with fail
          refine (hcall _).mono ?_
          rintro e w3 ⟨rfl, e3⟩
          go_wp2_with fail
          go_ret
          exact ⟨rfl, (e1.trans e3).trans (Ext.alloc _ _)⟩
        · rw [if_neg h0] at hpm
          have hz : ((i : Int) == 0) = false := by rw [beq_eq_false_iff_ne]; omega
          by_cases h64 : i ≤ 64
          · rw [if_pos h64] at hpm
            have d5 : decide (64 < (i : Int)) = false := decide_eq_false (by omega)
            have hcall := fun W => aparse_yes W S hsl hpm
            clear hpm
            go_wp2_with fail
            refine (hcall _).mono ?_
            rintro e w3 ⟨B, m, d, rfl, hro, e3⟩
            have hm : m = i := by have := hro.len; simpa using this
            subst hm
            go_wp2_with fail
            go_ret
            exact ⟨by simp, (e1.trans e3).trans (Ext.alloc _ _)⟩
          · rw [if_neg h64] at hpm
            have d5 : decide (64 < (i : Int)) = true := decide_eq_true (by omega)
            have hcall := fun W => aparse_no W S hsl hpm
            have s1 : IntKind.i64.wrap ((g : Int) + 1) = (g : Int) + 1 := by rw [IntKind.wrap_i64]; omega
            have s2 : IntKind.i64.wrap (65 * ((g : Int) + 1)) = 65 * ((g : Int) + 1) := by rw [IntKind.wrap_i64]; omega
            have s3 : IntKind.i64.wrap (1 + 65 * ((g : Int) + 1)) = 1 + 65 * ((g : Int) + 1) := by rw [IntKind.wrap_i64]; omega
            have s4 : (((1 + 65 * (g + 1) : Nat) : Int) == 1 + 65 * ((g : Int) + 1)) = true := by rw [beq_iff_eq]; omega
            clear hpm
            go_wp2_with fail
            refine (hcall _).mono ?_
            rintro e w3 ⟨rfl, e3⟩
            go_wp2_with fail
            go_ret
            exact ⟨by simp, (e1.trans e3).trans (Ext.alloc _ _)⟩
  · have hw : ∀ e, (decide (a < 0) || decide (70 < a) || decide (b < 0) || decide (3 < b)) = e → e = true := by
      intro e he
      rw [← he]
      simp only [Bool.or_eq_true, decide_eq_true_eq]
      omega
    by_cases h1 : a < 0
    · have d1 : decide (a < 0) = true := decide_eq_true h1
      go_enter Tryd.func8, Tryd.ntmps8
      go_wp2_with fail
      refine (begun6_any w ht).mono ?_
      rintro e w1 ⟨rfl, e1⟩
      go_wp2_with fail
      go_ret
      exact ⟨rfl, e1⟩
    · have d1 : decide (a < 0) = false := decide_eq_false h1
      by_cases h2 : 70 < a
      · have d2 : decide (70 < a) = true := decide_eq_true h2
        go_enter Tryd.func8, Tryd.ntmps8
        go_wp2_with fail
        refine (begun6_any w ht).mono ?_
        rintro e w1 ⟨rfl, e1⟩
        go_wp2_with fail
        go_ret
        exact ⟨rfl, e1⟩
      · have d2 : decide (70 < a) = false := decide_eq_false h2
        by_cases h3 : b < 0
        · have d3 : decide (b < 0) = true := decide_eq_true h3
          go_enter Tryd.func8, Tryd.ntmps8
          go_wp2_with fail
          refine (begun6_any w ht).mono ?_
          rintro e w1 ⟨rfl, e1⟩
          go_wp2_with fail
          go_ret
          exact ⟨rfl, e1⟩
        · have d3 : decide (b < 0) = false := decide_eq_false h3
          have d4 : decide (3 < b) = true := decide_eq_true (by omega)
          go_enter Tryd.func8, Tryd.ntmps8
          go_wp2_with fail
          refine (begun6_any w ht).mono ?_
          rintro e w1 ⟨rfl, e1⟩
          go_wp2_with fail
          go_ret
          exact ⟨rfl, e1⟩
end Go.Proofs.YtbmgiidecidojaaDoor
