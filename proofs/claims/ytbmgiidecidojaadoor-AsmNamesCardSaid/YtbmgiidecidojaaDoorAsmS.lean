/- The walk of the reference's Print. -/
import Derived.Test.YtbmgiidecidojaaDoorAsmQ
import Derived.Test.YtbmgiidecidojaaDoorAsmU
namespace Go.Proofs.YtbmgiidecidojaaDoor
open Go.RowKit

theorem head_bt {t : List UInt8} (h : t ≠ []) : (t.head? == some 32) = decide (bt t 0 = 32) := by
  obtain ⟨b, r, rfl⟩ := List.exists_cons_of_ne_nil h
  show (some b == some 32) = decide (b.toNat = 32)
  rw [Bool.eq_iff_iff]
  simp only [beq_iff_eq, decide_eq_true_eq, Option.some.injEq]
  exact ⟨fun e => by rw [e]; rfl, fun e => UInt8.toNat_inj.mp e⟩
theorem last_bt {t : List UInt8} (h : t ≠ []) : (t.getLast? == some 32) = decide (bt t (t.length - 1) = 32) := by
  obtain ⟨r, b, rfl⟩ : ∃ r b, t = r ++ [b] := ⟨t.dropLast, t.getLast h, (List.dropLast_concat_getLast h).symm⟩
  have e : bt (r ++ [b]) ((r ++ [b]).length - 1) = b.toNat := by simp [bt]
  rw [e, Bool.eq_iff_iff]
  simp only [List.getLast?_append, List.getLast?_singleton, Option.some_or, beq_iff_eq, decide_eq_true_eq, Option.some.injEq]
  exact ⟨fun e => by rw [e]; rfl, fun e => UInt8.toNat_inj.mp e⟩
theorem any_bt (t : List UInt8) : (t.any fun b => b.toNat == 35) = decide (∃ k, k < t.length ∧ bt t k = 35) := by
  rw [Bool.eq_iff_iff, List.any_eq_true, decide_eq_true_eq]
  constructor
  · rintro ⟨b, hb, e⟩
    obtain ⟨k, hk, rfl⟩ := List.getElem_of_mem hb
    exact ⟨k, hk, by rw [bt_get hk]; simpa using e⟩
  · rintro ⟨k, hk, e⟩
    exact ⟨t[k], List.getElem_mem hk, by rw [bt_get hk] at e; simpa using e⟩
theorem print_form {t : List UInt8} {l : List OpT} (h : formL t l = false) : printL t l = [] := by rw [print_head, if_neg (by rw [h]; simp)]
theorem print_apart {t : List UInt8} {l : List OpT} (h : apartL t = true) : printL t l = [] := by rw [print_head, if_neg (by rw [h]; simp)]
theorem takes_out {x : Int} (h : takesL x < 0) : x < 0 ∨ 15 < x := by
  unfold takesL at h
  repeat' split at h
  all_goals omega
def rhRel (w : World) (t : List UInt8) (iv : Value) (wr : World) : Prop := ∃ k : Nat, iv = .int .i64 (k : Nat) ∧ k ≤ t.length ∧ (∀ j, j < k → bt t j ≠ 35) ∧ wr = w
def rpRel (w wb : World) (t : List UInt8) (l : List OpT) (sv iv : Value) (wr : World) : Prop :=
  ∃ (k : Nat) (y : List UInt8), iv = .int .i64 (k : Nat) ∧ sv = .string (bs (headL t ++ y)) ∧ k ≤ l.length ∧ RowKit.Hid (opsTx l = (opsTx (l.drop k)).map (y ++ ·)) ∧ Ext w wr ∧ Ext wb wr ∧ (headL t ++ y).length ≤ 100 + 100 * k
def riRel (w : World) (pre : List UInt8) (T : Int) (ns : List Int) (sv iv : Value) (wr : World) : Prop :=
  ∃ (j : Nat) (p : List UInt8), iv = .int .i64 (j : Nat) ∧ sv = .string (bs (pre ++ p)) ∧ j ≤ 3 ∧ RowKit.Hid (argTx T 0 ns = (argTx T j (ns.drop j)).map (p ++ ·)) ∧ Ext w wr ∧ (pre ++ p).length ≤ pre.length + 21 * j

set_option maxRecDepth 100000 in
set_option maxHeartbeats 8000000 in
theorem rprint_any (w : World) (t : List UInt8) (A : Option Addr) (n c : Nat) (l : List OpT) (ht : t.length ≤ 1099511627776) (hl : Ro w A n c l) :
    Calls Tryd.prog 16 #[pAgg t A n c] w fun e w' => e = .returned (.string (bs (printL t l))) ∧ Ext w w' := by
  have hV := fun W e => form_any W t A n c l ht (hl.ext (e : Ext w W))
  have hn := hl.len
  subst hn
  unfold pAgg at *
  go_enter Tryd.func16, Tryd.ntmps16
  go_wp2_with fail
  generalize hV0 : World.alloc w _ = V0
  have x0 : Ext w V0 := by subst hV0; exact Ext.alloc _ _
  have c0 : V0.cell? ⟨w.heap.size, 0, none⟩ = some (.string (bs t)) := by subst hV0; go_simp
  have c1 : V0.cell? ⟨w.heap.size, 1, none⟩ = some (.slice A l.length c) := by subst hV0; go_simp
  clear hV0
  refine (hV V0 x0).mono ?_
  rintro e w1 ⟨rfl, e1⟩
  have c0 := e1.cell c0
  have c1 := e1.cell c1
  have x1 := x0.trans e1
  clear hV e1 x0
  cases hf : formL t l with
  | false =>
    have Hz := Lib.hid (print_form hf)
    clear hf
    go_wp2_with fail
    go_ret
    exact ⟨by rw [Hz.out]; rfl, x1⟩
  | true =>
    have Hf := Lib.hid hf
    have htl : titleL t = true := by
      unfold formL at hf
      simp only [Bool.and_eq_true] at hf
      exact hf.1.1.1
    have hne : t ≠ [] := by rintro rfl; exact absurd htl (by decide)
    have ht80 : t.length ≤ 80 := title_len htl
    have ht0 := List.length_pos_iff.mpr hne
    have hix0 := fun W => str_first (P := Tryd.prog) W _ Tryd.underlying9 t hne
    have hixl := fun W => str_last (P := Tryd.prog) W _ Tryd.underlying9 t hne
    have Hh := Lib.hid (head_bt hne)
    have Hl := Lib.hid (last_bt hne)
    have h256 := bt_lt t 0
    have h256l := bt_lt t (t.length - 1)
    clear hf htl hne
    by_cases h0 : bt t 0 = 32
    · have hz : printL t l = [] := print_apart (by unfold apartL; rw [Hh.out, decide_eq_true h0]; simp)
      have Hz := Lib.hid hz
      rw [h0] at hix0
      clear hz h0 Hh Hl
      go_wp2_with fail
      go_ret
      exact ⟨by rw [Hz.out]; rfl, x1⟩
    · have b0 : (((bt t 0 : Nat) : Int) == 32) = false := by rw [beq_eq_false_iff_ne]; omega
      by_cases h1 : bt t (t.length - 1) = 32
      · have hz : printL t l = [] := print_apart (by unfold apartL; rw [Hl.out, decide_eq_true h1]; simp)
        have Hz := Lib.hid hz
        rw [h1] at hixl
        clear hz h0 h1 Hh Hl
        go_wp2_with fail
        go_ret
        exact ⟨by rw [Hz.out]; rfl, x1⟩
      · have b1 : (((bt t (t.length - 1) : Nat) : Int) == 32) = false := by rw [beq_eq_false_iff_ne]; omega
        have Hap : RowKit.Hid (apartL t = t.any fun b => b.toNat == 35) := Lib.hid (by unfold apartL; rw [Hh.out, Hl.out, decide_eq_false h0, decide_eq_false h1]; simp)
        clear h0 h1 Hh Hl
        go_wp2_with fail
        go_loopw [3] (fun iv wr => rhRel w1 t iv wr) (fun iv _ => t.length - (intOf iv).toNat)
        case atStart => exact ⟨0, rfl, Nat.zero_le _, fun j hj => by omega, rfl⟩
        case round =>
          obtain ⟨k, rfl, hk, hb, rfl⟩ := hrel
          have Hb := Lib.hid hb
          clear hb
          by_cases hlt : k < t.length
          · have hix := fun W => str_at (P := Tryd.prog) W _ Tryd.underlying9 t k hlt
            have h256k := bt_lt t k
            by_cases h35 : bt t k = 35
            · have hz : printL t l = [] := print_apart (by rw [Hap.out, any_bt]; exact decide_eq_true ⟨k, hlt, h35⟩)
              have Hz := Lib.hid hz
              rw [h35] at hix
              clear hz h35
              go_wp2_with fail
              go_ret
              exact ⟨by rw [Hz.out]; rfl, x1⟩
            · have b2 : (((bt t k : Nat) : Int) == 35) = false := by rw [beq_eq_false_iff_ne]; omega
              have H35 := Lib.hid h35
              clear h35
              go_wp2_with fail
              go_roundw
              case rel => exact ⟨k + 1, by go_num, hlt, (fun j hj => by
                by_cases e : j = k
                · subst e; exact H35.out
                · exact Hb.out j (by omega)), rfl⟩
              case measure => simp [intOf]; omega
          · obtain rfl : k = t.length := by omega
            have hap : apartL t = false := by
              rw [Hap.out, any_bt]
              exact decide_eq_false fun ⟨j, h1, h2⟩ => Hb.out j h1 h2
            have hz : printL t l = match opsTx l with | some y => headL t ++ y | none => [] := by rw [print_head, if_pos ⟨Hf.out, hap⟩]; rfl
            have Hz := Lib.hid hz
            have hst : ({ data := #[116, 105, 116, 108, 101, 32] } ++ bs t ++ { data := #[10] } : ByteArray) = bs (headL t) := by
              show bs [116, 105, 116, 108, 101, 32] ++ bs t ++ bs [10] = _
              rw [bs_add, bs_add]; rfl
            have hcat : ((9223372036854775807 : Nat) < 6 + t.length) = False := eq_false (by omega)
            have hcat2 : ((9223372036854775807 : Nat) < 6 + t.length + 1) = False := eq_false (by omega)
            have hhl : (headL t).length = t.length + 7 := by simp [headL, ttlW]
            have Hst := Lib.hid hst
            have Hhl := Lib.hid hhl
            have Hsm : RowKit.Hid (∀ o ∈ l, (((-2147483648 ≤ o.1 ∧ o.1 ≤ 2147483647) ∧ (-2147483648 ≤ o.2.1 ∧ o.2.1 ≤ 2147483647)) ∧ (-2147483648 ≤ o.2.2.1 ∧ o.2.2.1 ≤ 2147483647)) ∧ (-2147483648 ≤ o.2.2.2 ∧ o.2.2.2 ≤ 2147483647)) := Lib.hid fun o ho => by
              have := Hf.out
              unfold formL at this
              simp only [Bool.and_eq_true, List.all_eq_true] at this
              have := this.2 o ho
              unfold smallO smallI at this
              simpa only [Bool.and_eq_true, decide_eq_true_eq] using this
            have hl64 : l.length ≤ 64 := by
              have := Hf.out
              unfold formL at this
              simp only [Bool.and_eq_true, decide_eq_true_eq] at this
              exact this.1.2
            clear hz hap hst hhl hix0 hixl b0 b1 h256 h256l
            go_wp2_with fail
            obtain ⟨wb, rfl⟩ : ∃ wb : World, wb = wr := ⟨_, rfl⟩
            go_loopw [4, 5] (fun sv iv w' => rpRel w wb t l sv iv w') (fun _ iv _ => l.length - (intOf iv).toNat)
            case atStart => exact ⟨0, [], rfl, by rw [List.append_nil]; first | rfl | (congr 1; exact Hst.out), Nat.zero_le _, Lib.hid (by rw [List.drop_zero]; cases opsTx l <;> rfl), x1, Ext.refl _, by rw [List.append_nil, Hhl.out]; omega⟩
            case round =>
              obtain ⟨k, y, rfl, rfl, hk, hy, hX, hXb, hmb⟩ := hrel
              have Hmb := Lib.hid hmb
              clear hmb
              by_cases hlt : k < l.length
              · obtain ⟨b, o, hAe, g0, g1, g2, g3⟩ := (hl.ext hX).at_ hlt
                have hsm := Hsm.out _ (List.getElem_mem hlt)
                have Hat := Lib.hid (opsTx_at hlt)
                subst hAe
                generalize l[k] = op at *
                obtain ⟨x, a, b', c'⟩ := op
                obtain ⟨⟨⟨hs0, hs1⟩, hs2⟩, hs3⟩ := hsm
                dsimp only at g0 g1 g2 g3 hs0 hs1 hs2 hs3
                have hki : (0 : Int) ≤ (k : Int) ∧ (k : Int) < l.length := by omega
                have hk1 : IntKind.i64.wrap ((k : Int) + 1) = (k : Int) + 1 := by rw [IntKind.wrap_i64]; omega
                have d0 := hXb.cell c0
                have d1 := hXb.cell c1
                go_upto_region 13 with fail
                generalize hV1 : World.alloc wr _ = V1
                have eV1 : Ext wr V1 := by subst hV1; exact Ext.alloc _ _
                have F1 : FBox V1 wr.heap.size x a b' c' := by subst hV1; exact FBox.new _ _ _ _ _ _ rfl
                have hX1 := hX.trans eV1
                have hXb1 := hXb.trans eV1
                clear hV1 g0 g1 g2 g3 d0 d1
                obtain ⟨⟨f0, f1, f2, f3⟩, -⟩ := id F1
                generalize wr.heap.size = gb at *
                by_cases hneg : takesL x < 0
                · have hop : opTx (x, a, b', c') = none := by unfold opTx; dsimp only; rw [if_pos hneg]
                  have hz : printL t l = [] := by
                    rw [Hz.out, hy.out, Hat.out, hop]; rfl
                  have Hz2 := Lib.hid hz
                  have hxo : x < 0 ∨ 15 < x := takes_out hneg
                  clear hz hop hneg
                  by_cases hx0 : x < 0
                  · have hd1 : decide (x < 0) = true := decide_eq_true hx0
                    go_wp2_with fail
                    go_ret
                    exact ⟨by rw [Hz2.out]; rfl, hX1⟩
                  · have hd1 : decide (x < 0) = false := decide_eq_false hx0
                    have hd2 : decide (15 < x) = true := decide_eq_true (by omega)
                    go_wp2_with fail
                    go_ret
                    exact ⟨by rw [Hz2.out]; rfl, hX1⟩
                · obtain ⟨h0, h15⟩ := takes_code2 hneg
                  obtain ⟨q, rfl⟩ := Int.eq_ofNat_of_zero_le h0
                  have hq : q < 16 := by omega
                  obtain ⟨T, hT⟩ : ∃ T, takesL (q : Int) = T := ⟨_, rfl⟩
                  have hT3 : T ≤ 3 := by rw [← hT]; exact takesL_le _
                  have hname := fun W => name_is W q hq
                  obtain ⟨nm, hnm⟩ : ∃ nm, namesL.getD q [] = nm := ⟨_, rfl⟩
                  have hnl : nm.length ≤ 5 := by rw [← hnm]; exact names_len2 q hq
                  have hop : opTx ((q : Int), a, b', c') = (argTx T 0 [a, b', c']).map (nm ++ ·) := by
                    unfold opTx; dsimp only; rw [hT, if_neg (by rw [← hT]; exact hneg), Int.toNat_natCast, hnm]
                  have Htk := Lib.hid (fun W => rtakes_is W q h0 h15 hT)
                  rw [hnm] at hname
                  have Hname := Lib.hid hname
                  have Hop := Lib.hid hop
                  have hd1 : decide ((q : Int) < 0) = false := decide_eq_false (by omega)
                  have hd2 : decide (15 < (q : Int)) = false := decide_eq_false (by omega)
                  have hsz0 : (headL t ++ y).length ≤ 6500 := by have := Hmb.out; omega
                  have hcn : ((9223372036854775807 : Nat) < (headL t ++ y).length + nm.length) = False := eq_false (by omega)
                  clear hop hnm hT hname hneg
                  generalize hpr : headL t ++ y = pr at *
                  have Hpr := Lib.hid hpr
                  clear hpr
                  go_wp2_with fail
                  refine (Hname.out _).mono ?_
                  rintro e w3 ⟨rfl, e3⟩
                  have f0 := e3.cell f0
                  have f1 := e3.cell f1
                  have f2 := e3.cell f2
                  have f3 := e3.cell f3
                  have hX3 := hX1.trans e3
                  have hXb3 := hXb1.trans e3
                  clear hX1 e3
                  go_upto_region 17 with fail
                  generalize hV2 : World.alloc w3 _ = V2
                  have eV2 : Ext w3 V2 := by subst hV2; exact Ext.alloc _ _
                  have N2 : NBox V2 w3.heap.size a b' c' := by subst hV2; exact NBox.new _ _ _ _ _ rfl
                  have hX2 := hX3.trans eV2
                  have hXb2 := hXb3.trans eV2
                  have f0 := eV2.cell f0
                  clear hV2 hX3 f1 f2 f3
                  obtain ⟨⟨n0, n1, n2⟩, -⟩ := id N2
                  generalize w3.heap.size = gl at *
                  go_wp2_with fail
                  go_loopw [4, 8] (fun sv iv w' => riRel V2 (pr ++ nm) T [a, b', c'] sv iv w') (fun _ iv _ => 3 - (intOf iv).toNat)
                  case atStart => exact ⟨0, [], rfl, by rw [List.append_nil], by omega, Lib.hid (by rw [List.drop_zero]; cases argTx T 0 [a, b', c'] <;> rfl), Ext.refl _, by simp⟩
                  case round =>
                    obtain ⟨j, p, rfl, rfl, hj, hp1, hXr, hcb⟩ := hrel
                    have hcb2 : (pr ++ nm ++ p).length ≤ 6700 := by
                      have : (pr ++ nm).length = pr.length + nm.length := List.length_append
                      omega
                    have Hcb := Lib.hid hcb
                    have m0 := hXr.cell f0
                    have j0 := hXr.cell n0
                    have j1 := hXr.cell n1
                    have j2 := hXr.cell n2
                    clear hcb
                    by_cases hj3 : j < 3
                    · have hjd : decide ((j : Int) < 3) = true := decide_eq_true (by omega)
                      have hji : (0 : Int) ≤ (j : Int) ∧ (j : Int) < 3 := by omega
                      have hjc : wr.cell? ⟨gl, j, none⟩ = some (.int .i64 (([a, b', c'] : List Int).getD j 0)) := by
                        rcases (show j = 0 ∨ j = 1 ∨ j = 2 by omega) with rfl | rfl | rfl
                        · exact j0
                        · exact j1
                        · exact j2
                      have hdr : ([a, b', c'] : List Int).drop j = [a, b', c'].getD j 0 :: [a, b', c'].drop (j + 1) := by
                        rcases (show j = 0 ∨ j = 1 ∨ j = 2 by omega) with rfl | rfl | rfl <;> rfl
                      have hvb : -9223372036854775808 ≤ ([a, b', c'] : List Int).getD j 0 ∧ ([a, b', c'] : List Int).getD j 0 ≤ 9223372036854775807 := by
                        rcases (show j = 0 ∨ j = 1 ∨ j = 2 by omega) with rfl | rfl | rfl <;> simp <;> omega
                      have hst2 : argTx T 0 [a, b', c'] = ((if (j : Int) < T then (argTx T (j + 1) ([a, b', c'].drop (j + 1))).map (32 :: decL ([a, b', c'].getD j 0) ++ ·) else if [a, b', c'].getD j 0 = 0 then argTx T (j + 1) ([a, b', c'].drop (j + 1)) else none)).map (p ++ ·) := by
                        rw [hp1.out, hdr]; rfl
                      generalize ([a, b', c'] : List Int).getD j 0 = v at *
                      clear j0 j1 j2 hdr
                      by_cases hjT : (j : Int) < T
                      · have hjTd : decide ((j : Int) < T) = true := decide_eq_true hjT
                        rw [if_pos hjT] at hst2
                        have Hst2 := Lib.hid hst2
                        have hdl := decL_len hvb.1 hvb.2
                        have hj1 : IntKind.i64.wrap ((j : Int) + 1) = (j : Int) + 1 := by rw [IntKind.wrap_i64]; omega
                        clear hst2
                        go_wp2_with fail
                        refine (Htk.out _).mono ?_
                        rintro e w4 ⟨rfl, e4⟩
                        have hjc := e4.cell hjc
                        go_wp2_with fail
                        refine (decimal_any w4 v hvb.1 hvb.2).mono ?_
                        rintro e w5 ⟨rfl, e5⟩
                        have hc1 : ((9223372036854775807 : Nat) < 1 + (decL v).length) = False := eq_false (by omega)
                        have hc2 : ((9223372036854775807 : Nat) < (pr ++ nm ++ p).length + (1 + (decL v).length)) = False := eq_false (by omega)
                        have hl3 : (pr ++ nm ++ p).length = pr.length + nm.length + p.length := by rw [List.length_append, List.length_append]
                        have hc3 : ((9223372036854775807 : Nat) < pr.length + (nm.length + p.length) + (1 + (decL v).length)) = False := eq_false (by omega)
                        have Hv := Lib.hid (show bs (pr ++ nm ++ p) ++ (({ data := #[32] } : ByteArray) ++ bs (decL v)) = bs (pr ++ nm ++ (p ++ 32 :: decL v)) by
                          show bs (pr ++ nm ++ p) ++ (bs [32] ++ bs (decL v)) = _
                          rw [bs_add, bs_add]; simp)
                        have hXn := (hXr.trans e4).trans e5
                        go_wp2_with fail
                        go_roundw
                        case rel =>
                          refine ⟨j + 1, p ++ 32 :: decL v, by go_num, ?_, hj3, Lib.hid ?_, hXn, ?_⟩
                          · first | exact congrArg Value.string Hv.out | (rw [← Hv.out]; simp)
                          · rw [Hst2.out, Option.map_map]
                            congr 1
                            funext z
                            simp
                          · have := Hcb.out
                            simp at this ⊢; omega
                        case measure => simp [intOf]; omega
                      · have hjTd : decide ((j : Int) < T) = false := decide_eq_false hjT
                        rw [if_neg hjT] at hst2
                        by_cases hv : v = 0
                        · subst hv
                          rw [if_pos rfl] at hst2
                          have Hst2 := Lib.hid hst2
                          clear hst2
                          go_wp2_with fail
                          refine (Htk.out _).mono ?_
                          rintro e w4 ⟨rfl, e4⟩
                          have hjc := e4.cell hjc
                          go_wp2_with fail
                          go_roundw
                          case rel => exact ⟨j + 1, p, by go_num, by rw [List.append_assoc], hj3, Hst2, hXr.trans e4, by have := Hcb.out; omega⟩
                          case measure => simp [intOf]; omega
                        · rw [if_neg hv] at hst2
                          have hz : printL t l = [] := by
                            rw [Hz.out, hy.out, Hat.out, Hop.out, hst2]; rfl
                          have Hz2 := Lib.hid hz
                          have hv1 : (v != 0) = true := by rw [bne_iff_ne]; exact hv
                          clear hst2 hz
                          go_wp2_with fail
                          refine (Htk.out _).mono ?_
                          rintro e w4 ⟨rfl, e4⟩
                          have hjc := e4.cell hjc
                          go_wp2_with fail
                          go_ret
                          exact ⟨by rw [Hz2.out]; rfl, hX2.trans (hXr.trans e4)⟩
                    · obtain rfl : j = 3 := by omega
                      have hfin : argTx T 0 [a, b', c'] = some p := by
                        rw [hp1.out]
                        show (argTx T 3 []).map (p ++ ·) = _
                        rw [argTx]; simp
                      have hyk : opsTx l = (opsTx (l.drop (k + 1))).map (y ++ nm ++ p ++ [10] ++ ·) := by
                        rw [hy.out, Hat.out, Hop.out, hfin]
                        cases opsTx (l.drop (k + 1)) with
                        | none => rfl
                        | some z => simp
                      have Hyk := Lib.hid hyk
                      have hc1 : ((9223372036854775807 : Nat) < (pr ++ nm ++ p).length + 1) = False := eq_false (by omega)
                      have hc3 : ((9223372036854775807 : Nat) < pr.length + (nm.length + p.length) + 1) = False := eq_false (by
                        have : (pr ++ nm ++ p).length = pr.length + nm.length + p.length := by rw [List.length_append, List.length_append]
                        omega)
                      have Hv := Lib.hid (show bs (pr ++ nm ++ p) ++ ({ data := #[10] } : ByteArray) = bs (headL t ++ (y ++ nm ++ p ++ [10])) by
                        show bs (pr ++ nm ++ p) ++ bs [10] = _
                        rw [bs_add, ← Hpr.out]; simp)
                      clear hfin hyk
                      go_wp2_with fail
                      go_roundw
                      case rel =>
                        refine ⟨k + 1, y ++ nm ++ p ++ [10], by go_num, ?_, hlt, Hyk, hX2.trans hXr, hXb2.trans hXr, ?_⟩
                        · first | exact congrArg Value.string Hv.out | (rw [← Hv.out]; simp)
                        · have h1 := Hcb.out
                          have h2 := Hmb.out
                          have h3 := congrArg List.length Hpr.out
                          simp at h1 h2 h3 ⊢; omega
                      case measure => simp [intOf]; omega
              · obtain rfl : k = l.length := by omega
                have hy2 := hy.out
                rw [List.drop_length] at hy2
                have hz : printL t l = headL t ++ y := by
                  rw [Hz.out, hy2]
                  show headL t ++ (y ++ []) = _
                  rw [List.append_nil]
                have Hz2 := Lib.hid hz
                have d0 := hXb.cell c0
                have d1 := hXb.cell c1
                clear hy2 hz
                go_wp2_with fail
                go_ret
                exact ⟨by rw [Hz2.out]; rfl, hX⟩
end Go.Proofs.YtbmgiidecidojaaDoor
