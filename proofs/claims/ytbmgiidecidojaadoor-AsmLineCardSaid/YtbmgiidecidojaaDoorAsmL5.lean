/- The walk of the law AsmLine. -/
import Derived.Test.YtbmgiidecidojaaDoorAsmL4
import Derived.Test.YtbmgiidecidojaaDoorAsmL1
namespace Go.Proofs.YtbmgiidecidojaaDoor
open Go.RowKit

def lnRel2 (w : World) (s : List UInt8) (tv nv iv : Value) (wr : World) : Prop := ∃ (i k : Nat) (S : List UInt8), iv = .int .i64 (i : Nat) ∧ nv = .int .i64 (k : Nat) ∧ tv = .string (bs S) ∧ i ≤ s.length ∧ k ≤ i ∧ S.length ≤ 40 * i ∧ wr = w
set_option maxRecDepth 100000 in
set_option maxHeartbeats 8000000 in
theorem line_walk (w : World) (ht0 : Pow w) (t : List UInt8) (A : Option Addr) (n c : Nat) (l : List OpT) (ht : t.length ≤ maxLen) (hl : Ro w A n c l) (_hok : ∀ o ∈ l, okO o) (at_ : Int) (_at0 : -9223372036854775808 ≤ at_) (_at1 : at_ ≤ 9223372036854775807) (m0 : List UInt8) (hm0 : m0.length ≤ maxLen) :
    Calls Tryd.prog 5 #[pAgg t A n c, .int .i64 at_, .string (bs m0)] w (Yes w) := by
  have hcut := fun W => pcut_any W t A n c 12 ht hl.max
  have hcutm := fun W => cut_any m0 30 W hm0
  have hm := hl.min_ 12
  have htl : (t.take 40).length ≤ 1099511627776 := by rw [List.length_take]; omega
  have hml : (m0.take 30).length ≤ 30 := by simp; omega
  generalize t.take 40 = ta at *
  generalize l.take 12 = la at *
  have hna : min n 12 ≤ 12 := by omega
  generalize min n 12 = na at *
  generalize m0.take 30 = m at *
  clear hl ht _hok hm0
  have hpr := fun W h' => rprint_any W ta A na c la htl h'
  have hsl := print_len ta la
  generalize printL ta la = s at *
  unfold pAgg at hcut hpr ⊢
  have Hcut := Lib.hid hcut
  have Hcutm := Lib.hid hcutm
  have Hpr := Lib.hid hpr
  clear hcut hcutm hpr
  go_enter Tryd.func5, Tryd.ntmps5
  go_wp2_with fail
  refine (begun6_any _ (pow_ext ht0 (Ext.alloc w _))).mono ?_
  rintro e w1 ⟨rfl, e1⟩
  have pb := (PBox.new w 26 t A n c rfl).ext e1
  have x1 : Ext w w1 := (Ext.alloc w _).trans e1
  clear e1
  obtain ⟨p0, p1, p2, p3⟩ := id pb
  go_wp2_with fail
  refine (Hcut.out w1).mono ?_
  rintro e w2 ⟨rfl, e2⟩
  have pb := pb.ext e2
  have x1 := x1.trans e2
  clear e2 p0 p1 p2 p3
  go_wp2_with fail
  refine (Hcutm.out w2).mono ?_
  rintro e w3 ⟨rfl, rfl⟩
  obtain ⟨p0, p1, p2, p3⟩ := id pb
  go_upto_region 5 with fail
  generalize hW : World.setCell _ ⟨w.heap.size, 1, none⟩ _ = W
  have pa : PBox W w.heap.size ta A na c := by subst hW; exact (pb.setT ta).set_ A na c
  have x2 : Ext w W := by
    subst hW
    exact below_of_grown' x1 (put2_grown w2 w.heap.size ta A na c) (Nat.le_refl _)
  clear hW pb x1 p0 p1 p2 p3 Hcut Hcutm
  obtain ⟨p0, p1, p2, p3⟩ := id pa
  go_wp2_with fail
  refine (Hpr.out W (hm.ext x2)).mono ?_
  rintro e w5 ⟨rfl, e5⟩
  have pa := pa.ext e5
  have x2 := x2.trans e5
  clear e5 p0 p1 p2 p3 Hpr
  obtain ⟨p0, p1, p2, p3⟩ := id pa
  by_cases hs : s = []
  · subst hs
    go_wp2_with fail
    go_ret
    exact ⟨rfl, x2⟩
  · have hse : s.isEmpty = false := by cases s <;> simp at hs ⊢
    by_cases hat : at_ < 0
    · have hd1 : decide (at_ < 0) = true := decide_eq_true hat
      go_wp2_with fail
      go_ret
      exact ⟨rfl, x2⟩
    · have hd1 : decide (at_ < 0) = false := decide_eq_false hat
      clear hs
      have hk1 : IntKind.i64.wrap ((na : Int) + 1) = (na : Int) + 1 := by rw [IntKind.wrap_i64]; omega
      have hkz : (((na : Int) + 1) == 0) = false := by rw [beq_eq_false_iff_ne]; omega
      go_wp2_with fail
      go_loopw [9, 10, 11] (fun tv nv iv wr => lnRel2 w5 s tv nv iv wr) (fun _ _ iv _ => s.length - (intOf iv).toNat)
      case atStart => exact ⟨0, 0, [], rfl, rfl, rfl, Nat.zero_le _, Nat.le_refl _, by simp, rfl⟩
      case round =>
        obtain ⟨i, k, S, rfl, rfl, rfl, hi, hki, hSl, rfl⟩ := hrel
        have hi1 : IntKind.i64.wrap ((i : Int) + 1) = (i : Int) + 1 := by rw [IntKind.wrap_i64]; omega
        have hkk : IntKind.i64.wrap ((k : Int) + 1) = (k : Int) + 1 := by rw [IntKind.wrap_i64]; omega
        by_cases hlt : i < s.length
        · have hix := fun W => str_at (P := Tryd.prog) W _ Tryd.underlying9 s i hlt
          have h256 := bt_lt s i
          have Hone1 := Lib.hid (show (s.drop i).take 1 = [s[i]] by have := one_cut hlt; rwa [show i + 1 - i = 1 by omega] at this)
          have hcA : ((9223372036854775807 : Nat) < m.length + 1) = False := eq_false (by omega)
          have hcB : ((9223372036854775807 : Nat) < S.length + (m.length + 1)) = False := eq_false (by omega)
          have hcC : ((9223372036854775807 : Nat) < S.length + 1) = False := eq_false (by omega)
          have Hv1 := Lib.hid (show bs S ++ (bs m ++ ({ data := #[10] } : ByteArray)) = bs (S ++ (m ++ [10])) by
            show bs S ++ (bs m ++ bs [10]) = _
            rw [bs_add, bs_add])
          have Hv2 := Lib.hid (show bs S ++ bs ((s.drop i).take 1) = bs (S ++ [s[i]]) by rw [Hone1.out, bs_add])
          obtain ⟨R, hR⟩ : ∃ R, at_.tmod ((na : Int) + 1) = R := ⟨_, rfl⟩
          by_cases hq : (k : Int) = R
          · have hqb : ((k : Int) == R) = true := by rw [beq_iff_eq]; exact hq
            have Hq := Lib.hid hq
            clear hq
            by_cases h10 : bt s i = 10
            · rw [h10] at hix
              clear h10
              go_wp2_with fail
              go_roundw
              case rel => exact ⟨i + 1, k + 1, S ++ (m ++ [10]), by go_num, by go_num, congrArg Value.string Hv1.out, hlt, by omega, by simp; omega, rfl⟩
              case measure => simp [intOf]; omega
            · have b1 : (((bt s i : Nat) : Int) == 10) = false := by rw [beq_eq_false_iff_ne]; omega
              clear h10
              go_wp2_with fail
              go_roundw
              case rel => exact ⟨i + 1, k, S, by go_num, rfl, rfl, hlt, by omega, by omega, rfl⟩
              case measure => simp [intOf]; omega
          · have hqb : ((k : Int) == R) = false := by rw [beq_eq_false_iff_ne]; exact hq
            have Hq := Lib.hid hq
            clear hq
            by_cases h10 : bt s i = 10
            · rw [h10] at hix
              clear h10
              go_wp2_with fail
              go_roundw
              case rel => exact ⟨i + 1, k + 1, S ++ [s[i]], by go_num, by go_num, congrArg Value.string Hv2.out, hlt, by omega, by simp; omega, rfl⟩
              case measure => simp [intOf]; omega
            · have b1 : (((bt s i : Nat) : Int) == 10) = false := by rw [beq_eq_false_iff_ne]; omega
              clear h10
              go_wp2_with fail
              go_roundw
              case rel => exact ⟨i + 1, k, S ++ [s[i]], by go_num, rfl, congrArg Value.string Hv2.out, hlt, by omega, by simp; omega, rfl⟩
              case measure => simp [intOf]; omega
        · obtain rfl : i = s.length := by omega
          have hSl2 : S.length ≤ 1099511627776 := by omega
          have x0 := x2
          clear x2
          rcases hR : parseL S with nn | ⟨t, ops⟩
          · have ha := fun W => aparse_no W S hSl2 hR
            have hb := fun W => rparse_no W S hSl2 hR
            clear hR
            go_wp2_with fail
            refine (ha _).mono ?_
            rintro e w2 ⟨rfl, e2⟩
            have x2 := x0.trans e2
            clear x0 e2 ha
            go_upto_region 21 with fail
            generalize hV1 : World.alloc w2 _ = V1
            have P1 : PBox V1 w2.heap.size [] none 0 0 := by subst hV1; exact PBox.new _ _ _ _ _ _ rfl
            have x3 : Ext w V1 := by subst hV1; exact x2.trans (Ext.alloc _ _)
            clear hV1 x2
            generalize w2.heap.size = g1 at *
            go_wp2_with fail
            refine (hb _).mono ?_
            rintro e w3 ⟨rfl, e3⟩
            have P1 := P1.ext e3
            have x3 := x3.trans e3
            clear e3 hb
            go_upto_region 22 with fail
            generalize hV2 : World.alloc w3 _ = V2
            have eV2 : Ext w3 V2 := by subst hV2; exact Ext.alloc _ _
            have P2 : PBox V2 w3.heap.size [] none 0 0 := by subst hV2; exact PBox.new _ _ _ _ _ _ rfl
            have P1 := P1.ext eV2
            have x3 := x3.trans eV2
            clear hV2 eV2
            generalize w3.heap.size = g2 at *
            obtain ⟨p0, p1, -⟩ := id P1
            obtain ⟨q0, q1, -⟩ := id P2
            go_wp2_with fail
            refine (req_is V2 [] none 0 0 [] [] none 0 0 [] (Ro.nil_ _) (Ro.nil_ _) (eqP_same _ _)).mono ?_
            rintro e w4 ⟨rfl, e4⟩
            go_wp2_with fail
            go_ret
            exact ⟨rfl, x3.trans e4⟩
          · have ha := fun W => aparse_yes W S hSl2 hR
            have hb := fun W => rparse_yes W S hSl2 hR
            clear hR
            go_wp2_with fail
            refine (ha _).mono ?_
            rintro e w2 ⟨B, m, d, rfl, hr, e2⟩
            have x2 := x0.trans e2
            clear x0 e2 ha
            go_upto_region 21 with fail
            generalize hV1 : World.alloc w2 _ = V1
            have eV1 : Ext w2 V1 := by subst hV1; exact Ext.alloc _ _
            have P1 : PBox V1 w2.heap.size t B m d := by subst hV1; exact PBox.new _ _ _ _ _ _ rfl
            have x3 : Ext w V1 := x2.trans eV1
            have hr := hr.ext eV1
            clear hV1 x2 eV1
            generalize w2.heap.size = g1 at *
            go_wp2_with fail
            refine (hb _).mono ?_
            rintro e w3 ⟨B', m', d', rfl, hr', e3⟩
            have P1 := P1.ext e3
            have x3 := x3.trans e3
            have hr := hr.ext e3
            clear e3 hb
            go_upto_region 22 with fail
            generalize hV2 : World.alloc w3 _ = V2
            have eV2 : Ext w3 V2 := by subst hV2; exact Ext.alloc _ _
            have P2 : PBox V2 w3.heap.size t B' m' d' := by subst hV2; exact PBox.new _ _ _ _ _ _ rfl
            have P1 := P1.ext eV2
            have x3 := x3.trans eV2
            have hr := hr.ext eV2
            have hr' := hr'.ext eV2
            clear hV2 eV2
            generalize w3.heap.size = g2 at *
            obtain ⟨p0, p1, -⟩ := id P1
            obtain ⟨q0, q1, -⟩ := id P2
            go_wp2_with fail
            refine (req_is V2 t B m d ops t B' m' d' ops hr hr' (eqP_same _ _)).mono ?_
            rintro e w4 ⟨rfl, e4⟩
            go_wp2_with fail
            go_ret
            exact ⟨rfl, x3.trans e4⟩
end Go.Proofs.YtbmgiidecidojaaDoor
