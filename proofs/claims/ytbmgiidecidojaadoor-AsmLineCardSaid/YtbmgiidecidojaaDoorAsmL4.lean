/- The walk of the law AsmBack. -/
import Derived.Test.YtbmgiidecidojaaDoorAsmL2
namespace Go.Proofs.YtbmgiidecidojaaDoor
open Go.RowKit

theorem deco_take {m s : List UInt8} {i : Nat} (h : i < s.length) : decoL m (s.take (i + 1)) = decoL m (s.take i) ++ (if bt s i = 10 then remL m ++ [s[i]] else [s[i]]) := by
  rw [List.take_succ_eq_append_getElem h, deco_append]
  congr 1
  unfold decoL
  rw [List.flatMap_cons, List.flatMap_nil, List.append_nil, bt_get h]
theorem below_of_grown' {w a b : World} {g : Nat} (h : Ext w a) (hg : a.grownBy b (some g)) (hB : w.heap.size ≤ g) : Ext w b := Ext.room h hg hB
/-- A program was read, into memory of the call's own. -/
def ReadOw (w : World) (t : List UInt8) (l : List OpT) (e : Ending) (w' : World) : Prop := ∃ B m d, e = .returned (.tuple #[.agg #[.string (bs t), .slice B m d], .int .i64 0, .int .i64 0]) ∧ Own w' w.heap.size 39 4 B m d (opcs l) ∧ Ext w w'
theorem aparse_own (w : World) (s : List UInt8) (hs : s.length ≤ 1099511627776) {t : List UInt8} {l : List OpT} (h : parseL s = .inr (t, l)) : Calls Tryd.prog 11 #[.string (bs s)] w (ReadOw w t l) := by
  refine (aparse_any w s hs).mono ?_
  rintro e w' (⟨n, h2, -⟩ | ⟨t', l', h2, B, m, d, he, ho, hx⟩)
  · rw [h] at h2; cases h2
  · rw [h] at h2; cases h2; exact ⟨B, m, d, he, ho, hx⟩
theorem eqP_me (t : List UInt8) (l : List OpT) : eqP t t l l = true := by simp [eqP]
def bkRel (w : World) (m s : List UInt8) (tv iv : Value) (wr : World) : Prop := ∃ (i : Nat) (S : List UInt8), iv = .int .i64 (i : Nat) ∧ tv = .string (bs S) ∧ i ≤ s.length ∧ RowKit.Hid (S = 35 :: 32 :: m ++ 10 :: 32 :: 9 :: 10 :: decoL m (s.take i)) ∧ S.length ≤ 30 + 25 * i ∧ wr = w
def rmRel (w : World) (m : List UInt8) (iv : Value) (wr : World) : Prop := ∃ i : Nat, iv = .int .i64 (i : Nat) ∧ i ≤ m.length ∧ RowKit.Hid (∀ j, j < i → bt m j ≠ 10) ∧ wr = w

set_option maxRecDepth 100000 in
set_option maxHeartbeats 8000000 in
theorem back_walk (w : World) (ht0 : Pow w) (t : List UInt8) (A : Option Addr) (n c : Nat) (l : List OpT) (ht : t.length ≤ maxLen) (hl : Ro w A n c l) (_hok : ∀ o ∈ l, okO o) (m0 : List UInt8) (hm0 : m0.length ≤ maxLen) :
    Calls Tryd.prog 4 #[pAgg t A n c, .string (bs m0)] w (Yes w) := by
  have hcut := fun W => pcut_any W t A n c 70 ht hl.max
  have hcutm := fun W => cut_any m0 20 W hm0
  have hm := hl.min_ 70
  have htl : (t.take 40).length ≤ 1099511627776 := by rw [List.length_take]; omega
  have hml : (m0.take 20).length ≤ 20 := by simp; omega
  generalize t.take 40 = ta at *
  generalize l.take 70 = la at *
  generalize min n 70 = na at *
  generalize m0.take 20 = m at *
  clear hl ht _hok hm0
  have hreq := fun W B k d h h' => req_is W ta A na c la ta B k d la h h' (eqP_me ta la)
  have hpa := fun W h h' => aprint_any W h ta A na c la htl h'
  have hpr := fun W h' => rprint_any W ta A na c la htl h'
  have hpp := parse_print (t := ta) (l := la)
  have hpd := fun h => parse_deco (t := ta) (l := la) h (m := m)
  have hsl := print_len ta la
  generalize printL ta la = s at *
  unfold pAgg at hcut hreq hpa hpr ⊢
  have Hcut := Lib.hid hcut
  have Hcutm := Lib.hid hcutm
  have Hreq := Lib.hid hreq
  have Hpa := Lib.hid hpa
  have Hpr := Lib.hid hpr
  have Hpp := Lib.hid hpp
  have Hpd := Lib.hid hpd
  clear hcut hcutm hreq hpa hpr hpp hpd
  go_enter Tryd.func4, Tryd.ntmps4
  go_wp2_with fail
  refine (begun6_any _ (pow_ext ht0 (Ext.alloc w _))).mono ?_
  rintro e w1 ⟨rfl, e1⟩
  have pb := (PBox.new w 26 t A n c rfl).ext e1
  have x1 : Ext w w1 := (Ext.alloc w _).trans e1
  clear e1
  obtain ⟨p0, p1, p2, p3⟩ := id pb
  go_wp2_with fail
  refine (Hcut.out w1).mono ?_
  rintro e w2 ⟨rfl, e2⟩
  have pb := pb.ext e2
  have x1 := x1.trans e2
  clear e2 p0 p1 p2 p3
  go_wp2_with fail
  refine (Hcutm.out w2).mono ?_
  rintro e w3 ⟨rfl, rfl⟩
  obtain ⟨p0, p1, p2, p3⟩ := id pb
  go_upto_region 5 with fail
  generalize hW : World.setCell _ ⟨w.heap.size, 1, none⟩ _ = W
  have pa : PBox W w.heap.size ta A na c := by subst hW; exact (pb.setT ta).set_ A na c
  have x2 : Ext w W := by
    subst hW
    exact below_of_grown' x1 (put2_grown w2 w.heap.size ta A na c) (Nat.le_refl _)
  clear hW pb x1 p0 p1 p2 p3 Hcut Hcutm
  obtain ⟨p0, p1, p2, p3⟩ := id pa
  go_wp2_with fail
  refine (Hpa.out W (pow_ext ht0 x2) (hm.ext x2)).mono ?_
  rintro e w4 ⟨rfl, e4⟩
  have pa := pa.ext e4
  have x2 := x2.trans e4
  clear e4 p0 p1 p2 p3
  obtain ⟨p0, p1, p2, p3⟩ := id pa
  go_wp2_with fail
  refine (Hpr.out w4 (hm.ext x2)).mono ?_
  rintro e w5 ⟨rfl, e5⟩
  have pa := pa.ext e5
  have x2 := x2.trans e5
  clear e5 p0 p1 p2 p3 Hpa Hpr
  by_cases hs : s = []
  · subst hs
    go_wp2_with fail
    go_ret
    exact ⟨rfl, x2⟩
  · have hse : s.isEmpty = false := by cases s <;> simp at hs ⊢
    have hsl2 : s.length ≤ 1099511627776 := by omega
    have hpar := fun V => aparse_yes V s hsl2 (Hpp.out hs)
    have Hpar := Lib.hid hpar
    have Hpd2 := Lib.hid (Hpd.out hs)
    clear hpar hs Hpp Hpd
    go_wp2_with fail
    refine (Hpar.out _).mono ?_
    rintro e w6 ⟨B, m1, d1, rfl, hro, e6⟩
    have pa := pa.ext e6
    have x2 := x2.trans e6
    clear e6 Hpar
    go_upto_region 11 with fail
    generalize hV1 : World.alloc w6 _ = V1
    have eV1 : Ext w6 V1 := by subst hV1; exact Ext.alloc _ _
    have pq : PBox V1 w6.heap.size ta B m1 d1 := by subst hV1; exact PBox.new _ _ _ _ _ _ rfl
    have hg6 : w.heap.size ≠ w6.heap.size := by have := pa.lt; omega
    have hlo6 : w.heap.size ≤ w6.heap.size := x2.size
    have pa := pa.ext eV1
    have x2 := x2.trans eV1
    have hro := hro.ext eV1
    clear hV1 eV1
    generalize w6.heap.size = g6 at *
    obtain ⟨p0, p1, p2, p3⟩ := id pa
    obtain ⟨q0, q1, q2, q3⟩ := id pq
    go_wp2_with fail
    refine (Hreq.out V1 B m1 d1 (hm.ext x2) hro).mono ?_
    rintro e w7 ⟨rfl, e7⟩
    have pa := pa.ext e7
    have pq := pq.ext e7
    have x2 := x2.trans e7
    clear e7 p0 p1 p2 p3 q0 q1 q2 q3 hro
    go_wp2_with fail
    go_loopw [10] (fun iv wr => rmRel w7 m iv wr) (fun iv _ => m.length - (intOf iv).toNat)
    case atStart => exact ⟨0, rfl, Nat.zero_le _, Lib.hid (fun j hj => by omega), rfl⟩
    case round =>
      obtain ⟨i, rfl, hi, hb, rfl⟩ := hrel
      have hi1 : IntKind.i64.wrap ((i : Int) + 1) = (i : Int) + 1 := by rw [IntKind.wrap_i64]; omega
      by_cases hlt : i < m.length
      · have hix := fun W => str_at (P := Tryd.prog) W _ Tryd.underlying9 m i hlt
        have h256 := bt_lt m i
        by_cases h10 : bt m i = 10
        · rw [h10] at hix
          clear h10
          go_wp2_with fail
          go_ret
          exact ⟨rfl, x2⟩
        · have b1 : (((bt m i : Nat) : Int) == 10) = false := by rw [beq_eq_false_iff_ne]; omega
          have H10 := Lib.hid h10
          clear h10
          go_wp2_with fail
          go_roundw
          case rel => exact ⟨i + 1, by go_num, hlt, Lib.hid (fun j hj => by
            by_cases e : j = i
            · subst e; exact H10.out
            · exact hb.out j (by omega)), rfl⟩
          case measure => simp [intOf]; omega
      · obtain rfl : i = m.length := by omega
        have hno : ∀ b ∈ m, b.toNat ≠ 10 := fun b hbm => by
          obtain ⟨k, hk, rfl⟩ := List.getElem_of_mem hbm
          have := hb.out k hk
          rwa [bt_get hk] at this
        have hpd := Hpd2.out hno
        have Hpd3 := Lib.hid hpd
        have hc1 : ((9223372036854775807 : Nat) < 2 + m.length) = False := eq_false (by omega)
        have hc2 : ((9223372036854775807 : Nat) < 2 + m.length + 4) = False := eq_false (by omega)
        have Hv := Lib.hid (show ({ data := #[35, 32] } : ByteArray) ++ bs m ++ ({ data := #[10, 32, 9, 10] } : ByteArray) = bs (35 :: 32 :: m ++ 10 :: 32 :: 9 :: 10 :: decoL m (s.take 0)) by
          show bs [35, 32] ++ bs m ++ bs [10, 32, 9, 10] = _
          rw [bs_add, bs_add]; simp [decoL])
        clear hpd hno hb Hpd2
        obtain ⟨wb, rfl⟩ : ∃ wb : World, wb = wr := ⟨_, rfl⟩
        go_wp2_with fail
        go_loopw [11, 12] (fun tv iv w' => bkRel wb m s tv iv w') (fun _ iv _ => s.length - (intOf iv).toNat)
        case atStart => exact ⟨0, _, rfl, congrArg Value.string Hv.out, Nat.zero_le _, Lib.hid rfl, by simp [decoL]; omega, rfl⟩
        case round =>
          obtain ⟨i, S, rfl, rfl, hi, hS, hSl, rfl⟩ := hrel
          have hi1 : IntKind.i64.wrap ((i : Int) + 1) = (i : Int) + 1 := by rw [IntKind.wrap_i64]; omega
          by_cases hlt : i < s.length
          · have hix := fun W => str_at (P := Tryd.prog) W _ Tryd.underlying9 s i hlt
            have h256 := bt_lt s i
            have Hone1 := Lib.hid (show (s.drop i).take 1 = [s[i]] by have := one_cut hlt; rwa [show i + 1 - i = 1 by omega] at this)
            have hdt := deco_take (m := m) hlt
            have hSl2 : S.length ≤ 200000 := by omega
            by_cases h10 : bt s i = 10
            · rw [h10] at hix
              rw [if_pos h10] at hdt
              have Hdt := Lib.hid hdt
              have hr3 : (remL m).length = 3 + m.length := by simp [remL]; omega
              have hcA : ((9223372036854775807 : Nat) < 3 + m.length) = False := eq_false (by omega)
              have hcB : ((9223372036854775807 : Nat) < S.length + (3 + m.length)) = False := eq_false (by omega)
              have hcC : ((9223372036854775807 : Nat) < S.length + (3 + m.length) + 1) = False := eq_false (by omega)
              clear h10 hdt
              have Hv2 := Lib.hid (show bs S ++ (({ data := #[9, 32, 35] } : ByteArray) ++ bs m) ++ bs ((s.drop i).take 1) = bs (S ++ (remL m ++ [s[i]])) by
                rw [Hone1.out]
                show bs S ++ (bs [9, 32, 35] ++ bs m) ++ bs [s[i]] = _
                rw [bs_add, bs_add, bs_add]; simp [remL])
              go_wp2_with fail
              go_roundw
              case rel =>
                refine ⟨i + 1, S ++ (remL m ++ [s[i]]), by go_num, congrArg Value.string Hv2.out, hlt, Lib.hid ?_, by simp [hr3]; omega, rfl⟩
                rw [Hdt.out, hS.out]; simp
              case measure => simp [intOf]; omega
            · have b1 : (((bt s i : Nat) : Int) == 10) = false := by rw [beq_eq_false_iff_ne]; omega
              rw [if_neg h10] at hdt
              have Hdt := Lib.hid hdt
              have hcA : ((9223372036854775807 : Nat) < S.length + 1) = False := eq_false (by omega)
              have Hv2 := Lib.hid (show bs S ++ bs ((s.drop i).take 1) = bs (S ++ [s[i]]) by rw [Hone1.out, bs_add])
              clear h10 hdt
              go_wp2_with fail
              go_roundw
              case rel =>
                refine ⟨i + 1, S ++ [s[i]], by go_num, ?_, hlt, Lib.hid ?_, by simp; omega, rfl⟩
                · first | exact congrArg Value.string Hv2.out | (rw [← Hv2.out]; simp)
                · rw [Hdt.out, hS.out]; simp
              case measure => simp [intOf]; omega
          · obtain rfl : i = s.length := by omega
            have hpf := Hpd3.out
            have hS2 := hS.out
            rw [List.take_length] at hS2
            rw [← hS2] at hpf
            have hSl2 : S.length ≤ 1099511627776 := by omega
            have hcall := fun V => aparse_own V S hSl2 hpf
            have Hcall := Lib.hid hcall
            clear hcall hpf hS2 hS Hpd3
            go_wp2_with fail
            refine (Hcall.out _).mono ?_
            rintro e w8 ⟨B8, m8, d8, rfl, how, e8⟩
            have hgw := pq.lt
            have pa := pa.ext e8
            have pq := pq.ext e8
            have x2 := x2.trans e8
            obtain ⟨q0, q1, q2, q3⟩ := id pq
            clear e8 Hcall
            go_upto_region 26 with fail
            generalize hW9 : World.setCell _ ⟨g6, 1, none⟩ _ = W9
            have g9 : w8.grownBy W9 (some g6) := by subst hW9; exact put2_grown w8 g6 ta B8 m8 d8
            have pq9 : PBox W9 g6 ta B8 m8 d8 := by subst hW9; exact (pq.setT ta).set_ B8 m8 d8
            have pa9 := pa.grown g9 (some_ne (fun e => hg6 e.symm))
            have x9 := Ext.room x2 g9 hlo6
            have hB8 : blk B8 ≠ some g6 := fun e => by have := how.blk_ge _ e; omega
            have hro := (how.kept g9 (.inr hB8)).rd
            clear hW9 pq q0 q1 q2 q3 how
            obtain ⟨p0, p1, p2, p3⟩ := id pa9
            obtain ⟨q0, q1, q2, q3⟩ := id pq9
            go_wp2_with fail
            refine (Hreq.out W9 B8 m8 d8 (hm.ext x9) hro).mono ?_
            rintro e w10 ⟨rfl, e10⟩
            go_wp2_with fail
            go_ret
            exact ⟨rfl, x9.trans e10⟩
end Go.Proofs.YtbmgiidecidojaaDoor
