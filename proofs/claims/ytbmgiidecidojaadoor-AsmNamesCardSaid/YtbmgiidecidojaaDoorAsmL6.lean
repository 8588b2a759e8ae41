/- The walk of the law AsmNames. -/
import Derived.Test.YtbmgiidecidojaaDoorAsmK
import Derived.Test.YtbmgiidecidojaaDoorAsmB
namespace Go.Proofs.YtbmgiidecidojaaDoor
open Go.RowKit

theorem kind_of6 (x : Int) : ∃ r : Int, (IntKind.i64.wrap (x.tmod 16 + 16)).tmod 16 = r ∧ (x.tmod 16 + 16).tmod 16 = r ∧ 0 ≤ r ∧ r ≤ 15 ∧ -15 ≤ x.tmod 16 ∧ x.tmod 16 ≤ 15 := by
  have h1 : -16 < x.tmod 16 := Int.lt_tmod_of_pos x (by decide)
  have h2 : x.tmod 16 < 16 := Int.tmod_lt_of_pos x (by decide)
  have e : IntKind.i64.wrap (x.tmod 16 + 16) = x.tmod 16 + 16 := by rw [IntKind.wrap_i64]; omega
  have h3 : (x.tmod 16 + 16).tmod 16 = (x.tmod 16 + 16) % 16 := Int.tmod_eq_emod_of_nonneg (by omega)
  exact ⟨_, by rw [e], rfl, by rw [h3]; omega, by rw [h3]; omega, by omega, by omega⟩
/-- The name and the first numbers were written. -/
def nmRel (w : World) (nm : List UInt8) (vs : List Int) (N : Nat) (sv mv iv : Value) (wr : World) : Prop :=
  ∃ (i : Nat) (sm : Bool) (S : List UInt8), iv = .int .i64 (i : Nat) ∧ mv = .bool sm ∧ sv = .string (bs S) ∧ i ≤ N ∧ RowKit.Hid (S = nm ++ argsT (vs.take i)) ∧ RowKit.Hid (sm = (vs.take i).all smallI) ∧ Ext w wr
theorem nm_next {w w' : World} {nm S : List UInt8} {vs : List Int} {N i : Nat} {sm sm' b : Bool} {v : Int} {sv : Value} (hi : i < N) (hS : S = nm ++ argsT (vs.take i)) (hm : sm = (vs.take i).all smallI) (hv : vs.take (i + 1) = vs.take i ++ [v]) (hb : sm' = (sm && smallI v)) (he : sv = .string (bs (S ++ 32 :: decL v))) (hx : Ext w w') (hq : b = sm') :
    nmRel w nm vs N sv (.bool b) (.int .i64 ((i : Int) + 1)) w' :=
  ⟨i + 1, b, S ++ 32 :: decL v, by go_num, rfl, he, hi, by rw [hv, argsT_snoc, hS]; exact Lib.hid (List.append_assoc _ _ _), Lib.hid (by rw [hq, hb, hm, hv, List.all_append, List.all_cons, List.all_nil, Bool.and_true]), hx⟩

set_option maxRecDepth 100000 in
set_option maxHeartbeats 8000000 in
theorem names_walk (w : World) (ht0 : Pow w) (x : Int) (_x0 : -9223372036854775808 ≤ x) (_x1 : x ≤ 9223372036854775807) (a : Int) (a0 : -9223372036854775808 ≤ a) (a1 : a ≤ 9223372036854775807) (b : Int) (b0 : -9223372036854775808 ≤ b) (b1 : b ≤ 9223372036854775807) (c : Int) (c0 : -9223372036854775808 ≤ c) (c1 : c ≤ 9223372036854775807) (fw : Bool) :
    Calls Tryd.prog 6 #[.int .i64 x, .int .i64 a, .int .i64 b, .int .i64 c, .bool fw] w (Yes w) := by
  obtain ⟨r, hk1, hk2, hr0, hr1, hx1, hx2⟩ := kind_of6 x
  obtain ⟨q, rfl⟩ := Int.eq_ofNat_of_zero_le hr0
  have hq : q < 16 := by omega
  have hqi : (0 : Int) ≤ (q : Int) ∧ (q : Int) < 16 := by omega
  obtain ⟨T, hT⟩ : ∃ T, takesL (q : Int) = T := ⟨_, rfl⟩
  have hT3 : T ≤ 3 := by rw [← hT]; exact takesL_le _
  have hT0 : 0 ≤ T := by rw [← hT]; exact takesL_ge hq
  have HT := Lib.hid hT
  obtain ⟨nm, hnm⟩ : ∃ nm, namesL.getD q [] = nm := ⟨_, rfl⟩
  have hname := fun W => name_is W q hq
  rw [hnm] at hname
  have Hname := Lib.hid hname
  have Hnm := Lib.hid hnm
  have hnl : nm.length ≤ 5 := by rw [← hnm]; exact names_len3 q
  clear hT hname hnm hr0 hr1 _x0 _x1
  go_enter Tryd.func6, Tryd.ntmps6
  go_wp2_with fail
  refine (begun6_any w ht0).mono ?_
  rintro e w1 ⟨rfl, e1⟩
  have hk3 : (x.tmod 16 + 16) % 16 = q := by rw [← Int.tmod_eq_emod_of_nonneg (by omega)]; exact hk2
  have htk : (([Value.int IntKind.i64 0, Value.int IntKind.i64 2, Value.int IntKind.i64 2, Value.int IntKind.i64 3, Value.int IntKind.i64 3, Value.int IntKind.i64 3, Value.int IntKind.i64 3, Value.int IntKind.i64 3, Value.int IntKind.i64 3, Value.int IntKind.i64 1, Value.int IntKind.i64 2, Value.int IntKind.i64 2, Value.int IntKind.i64 2, Value.int IntKind.i64 2, Value.int IntKind.i64 2, Value.int IntKind.i64 1] : List Value))[q]? = some (.int .i64 T) := by
    have h := tkl_at q hq
    have e : (tkl.map (Value.int .i64))[q]? = some (.int .i64 T) := by rw [List.getElem?_map, h, HT.out]; rfl
    exact e
  go_upto_region 6 with fail
  obtain ⟨hb, hge⟩ := List.getElem?_eq_some_iff.mp htk
  simp only [hge]
  generalize hV : World.alloc w1 _ = V
  have xV : Ext w V := by subst hV; exact e1.trans (Ext.alloc _ _)
  clear hV e1 htk hge hb hk1 hk2 hk3 hx1 hx2
  go_upto_region 7 with fail
  generalize hV2 : World.alloc V _ = V2
  have N2 : NBox V2 V.heap.size a b c := by subst hV2; exact NBox.new _ _ _ _ _ rfl
  have x2 : Ext w V2 := by subst hV2; exact xV.trans (Ext.alloc _ _)
  clear hV2 xV
  generalize V.heap.size = gl at *
  cases fw with
  | true =>
    obtain ⟨I, hI⟩ : ∃ I, T - 1 = I := ⟨_, rfl⟩
    have hIw : IntKind.i64.wrap (T - 1) = I := by rw [IntKind.wrap_i64]; omega
    have hIw2 : wrap64 (T - 1) = I := by unfold wrap64; omega
    obtain ⟨N, hN⟩ : ∃ N : Nat, I.toNat = N := ⟨_, rfl⟩
    have hN3 : N ≤ 3 := by omega
    have hname2 := Hname.out
    go_wp2_with fail
    refine (hname2 _).mono ?_
    rintro e w3 ⟨rfl, e3⟩
    obtain ⟨n0, n1, n2⟩ := (N2.ext e3).1
    have x3 := x2.trans e3
    clear N2 x2 e3 hname2 Hname
    go_wp2_with fail
    obtain ⟨w0, rfl⟩ : ∃ w0 : World, w0 = w3 := ⟨_, rfl⟩
    go_loopw [15, 16, 17] (fun sv mv iv wr => nmRel w0 nm [a, b, c] N sv mv iv wr) (fun _ _ iv _ => N - (intOf iv).toNat)
    case atStart => exact ⟨0, true, nm, rfl, rfl, rfl, Nat.zero_le _, Lib.hid (by simp [argsT]), Lib.hid (by simp), Ext.refl _⟩
    case round =>
      obtain ⟨i, sm, S, rfl, rfl, rfl, hi, hS, hsm, hXr⟩ := hrel
      have hi1 : IntKind.i64.wrap ((i : Int) + 1) = (i : Int) + 1 := by rw [IntKind.wrap_i64]; omega
      have hSl : S.length ≤ 68 := by
        rw [hS.out, ← Hnm.out]
        exact names_short q _ (fun v hv => by
          have := List.mem_of_mem_take hv
          simp only [List.mem_cons, List.not_mem_nil, or_false] at this
          rcases this with rfl | rfl | rfl
          · exact ⟨a0, a1⟩
          · exact ⟨b0, b1⟩
          · exact ⟨c0, c1⟩) (by simp; omega)
      have m0 := hXr.cell n0
      have m1 := hXr.cell n1
      have m2 := hXr.cell n2
      by_cases hjN : i < N
      · have hjd : decide ((i : Int) < I) = true := decide_eq_true (by omega)
        have hi3 : i < 3 := by omega
        have hii : (0 : Int) ≤ (i : Int) ∧ (i : Int) < 3 := by omega
        have hjc : wr.cell? ⟨gl, i, none⟩ = some (.int .i64 (([a, b, c] : List Int).getD i 0)) := by
          rcases (show i = 0 ∨ i = 1 ∨ i = 2 by omega) with rfl | rfl | rfl
          · exact m0
          · exact m1
          · exact m2
        have Hvi := Lib.hid (show ([a, b, c] : List Int).take (i + 1) = [a, b, c].take i ++ [([a, b, c] : List Int).getD i 0] by
          rcases (show i = 0 ∨ i = 1 ∨ i = 2 by omega) with rfl | rfl | rfl <;> rfl)
        have hvb : -9223372036854775808 ≤ ([a, b, c] : List Int).getD i 0 ∧ ([a, b, c] : List Int).getD i 0 ≤ 9223372036854775807 := by
          rcases (show i = 0 ∨ i = 1 ∨ i = 2 by omega) with rfl | rfl | rfl <;> simp <;> omega
        generalize ([a, b, c] : List Int).getD i 0 = v at *
        have hdl := decL_len hvb.1 hvb.2
        have Hv := Lib.hid (show bs S ++ (({ data := #[32] } : ByteArray) ++ bs (decL v)) = bs (S ++ 32 :: decL v) by
          show bs S ++ (bs [32] ++ bs (decL v)) = _
          rw [bs_add, bs_add]; simp)
        clear m0 m1 m2
        by_cases hlo : -2147483648 ≤ v
        · have dlo : decide (-2147483648 ≤ v) = true := decide_eq_true hlo
          by_cases hhi : v ≤ 2147483647
          · have dhi : decide (v ≤ 2147483647) = true := decide_eq_true hhi
            have Hs := Lib.hid (show true = (true && smallI v) by unfold smallI; rw [dlo, dhi]; rfl)
            cases sm with
            | true =>
              go_wp2_with fail
              refine (decimal_any wr v hvb.1 hvb.2).mono ?_
              rintro e w5 ⟨rfl, e5⟩
              have hjc := e5.cell hjc
              have hc1 : ((9223372036854775807 : Nat) < 1 + (decL v).length) = False := eq_false (by omega)
              have hc2 : ((9223372036854775807 : Nat) < S.length + (1 + (decL v).length)) = False := eq_false (by omega)
              go_wp2_with fail
              go_roundw
              case rel => exact nm_next hjN hS.out hsm.out Hvi.out Hs.out (congrArg Value.string Hv.out) (hXr.trans e5) rfl
              case measure => simp [intOf]; omega
            | false =>
              have Hs := Lib.hid (show false = (false && smallI v) from rfl)
              go_wp2_with fail
              refine (decimal_any wr v hvb.1 hvb.2).mono ?_
              rintro e w5 ⟨rfl, e5⟩
              have hjc := e5.cell hjc
              have hc1 : ((9223372036854775807 : Nat) < 1 + (decL v).length) = False := eq_false (by omega)
              have hc2 : ((9223372036854775807 : Nat) < S.length + (1 + (decL v).length)) = False := eq_false (by omega)
              go_wp2_with fail
              go_roundw
              case rel => exact nm_next hjN hS.out hsm.out Hvi.out Hs.out (congrArg Value.string Hv.out) (hXr.trans e5) rfl
              case measure => simp [intOf]; omega
          · have dhi : decide (v ≤ 2147483647) = false := decide_eq_false hhi
            have Hs := Lib.hid (show false = (true && smallI v) by unfold smallI; rw [dlo, dhi]; rfl)
            cases sm with
            | true =>
              go_wp2_with fail
              refine (decimal_any wr v hvb.1 hvb.2).mono ?_
              rintro e w5 ⟨rfl, e5⟩
              have hjc := e5.cell hjc
              have hc1 : ((9223372036854775807 : Nat) < 1 + (decL v).length) = False := eq_false (by omega)
              have hc2 : ((9223372036854775807 : Nat) < S.length + (1 + (decL v).length)) = False := eq_false (by omega)
              go_wp2_with fail
              go_roundw
              case rel => exact nm_next hjN hS.out hsm.out Hvi.out Hs.out (congrArg Value.string Hv.out) (hXr.trans e5) rfl
              case measure => simp [intOf]; omega
            | false =>
              have Hs := Lib.hid (show false = (false && smallI v) from rfl)
              go_wp2_with fail
              refine (decimal_any wr v hvb.1 hvb.2).mono ?_
              rintro e w5 ⟨rfl, e5⟩
              have hjc := e5.cell hjc
              have hc1 : ((9223372036854775807 : Nat) < 1 + (decL v).length) = False := eq_false (by omega)
              have hc2 : ((9223372036854775807 : Nat) < S.length + (1 + (decL v).length)) = False := eq_false (by omega)
              go_wp2_with fail
              go_roundw
              case rel => exact nm_next hjN hS.out hsm.out Hvi.out Hs.out (congrArg Value.string Hv.out) (hXr.trans e5) rfl
              case measure => simp [intOf]; omega
        · have dlo : decide (-2147483648 ≤ v) = false := decide_eq_false hlo
          have Hs := Lib.hid (show false = (true && smallI v) by unfold smallI; rw [dlo]; rfl)
          cases sm with
          | true =>
            go_wp2_with fail
            refine (decimal_any wr v hvb.1 hvb.2).mono ?_
            rintro e w5 ⟨rfl, e5⟩
            have hjc := e5.cell hjc
            have hc1 : ((9223372036854775807 : Nat) < 1 + (decL v).length) = False := eq_false (by omega)
            have hc2 : ((9223372036854775807 : Nat) < S.length + (1 + (decL v).length)) = False := eq_false (by omega)
            go_wp2_with fail
            go_roundw
            case rel => exact nm_next hjN hS.out hsm.out Hvi.out Hs.out (congrArg Value.string Hv.out) (hXr.trans e5) rfl
            case measure => simp [intOf]; omega
          | false =>
            have Hs := Lib.hid (show false = (false && smallI v) from rfl)
            go_wp2_with fail
            refine (decimal_any wr v hvb.1 hvb.2).mono ?_
            rintro e w5 ⟨rfl, e5⟩
            have hjc := e5.cell hjc
            have hc1 : ((9223372036854775807 : Nat) < 1 + (decL v).length) = False := eq_false (by omega)
            have hc2 : ((9223372036854775807 : Nat) < S.length + (1 + (decL v).length)) = False := eq_false (by omega)
            go_wp2_with fail
            go_roundw
            case rel => exact nm_next hjN hS.out hsm.out Hvi.out Hs.out (congrArg Value.string Hv.out) (hXr.trans e5) rfl
            case measure => simp [intOf]; omega
      · obtain rfl : i = N := by omega
        have hjd : decide ((i : Int) < I) = false := decide_eq_false (by omega)
        have hpar := names_parse hq (([a, b, c] : List Int).take i)
        rw [Hnm.out, ← hS.out, ← hsm.out] at hpar
        have hlt3 : (([a, b, c] : List Int).take i).length = i := by simp; omega
        rw [hlt3, HT.out] at hpar
        have hcat : ((9223372036854775807 : Nat) < 8 + S.length) = False := eq_false (by omega)
        have hst : ({ data := #[116, 105, 116, 108, 101, 32, 116, 10] } : ByteArray) ++ bs S = bs (nameT ++ S) := by
          show bs nameT ++ bs S = _
          rw [bs_add]
        have hSl2 : (nameT ++ S).length ≤ 1099511627776 := by simp [nameT]; omega
        have Hst := Lib.hid hst
        have x4 := x3.trans hXr
        clear hst hlt3
        by_cases hT1 : T = 0
        · have hi0 : i = 0 := by omega
          subst hi0
          have hsm1 : sm = true := by rw [hsm.out]; rfl
          have hpy : parseL (nameT ++ S) = .inr ([116], [mkO q []]) := by
            rw [hpar, if_pos ⟨by omega, hsm1⟩]; rfl
          have hcall := fun W => aparse_yes W _ hSl2 hpy
          have Hcall := Lib.hid hcall
          have dn : decide (I < 0) = true := decide_eq_true (by omega)
          clear hcall hpy hpar hS hsm hsm1
          go_wp2_with (rw [Hst.out])
          refine (Hcall.out _).mono ?_
          rintro e w7 ⟨B, m, d, rfl, hro, e7⟩
          go_wp2_with fail
          go_ret
          exact ⟨rfl, (x4.trans e7).trans (Ext.alloc _ _)⟩
        · have dn : decide (I < 0) = false := decide_eq_false (by omega)
          have dn2 : decide (0 ≤ I) = true := decide_eq_true (by omega)
          have hpn : parseL (nameT ++ S) = .inl 2 := by rw [hpar, if_neg (by rintro ⟨h, -⟩; omega)]
          have hcall := fun W => aparse_no W _ hSl2 hpn
          have Hcall := Lib.hid hcall
          clear hcall hpn hpar hS hsm
          go_wp2_with (rw [Hst.out])
          refine (Hcall.out _).mono ?_
          rintro e w7 ⟨rfl, e7⟩
          go_wp2_with fail
          go_ret
          exact ⟨rfl, (x4.trans e7).trans (Ext.alloc _ _)⟩
  | false =>
    obtain ⟨I, hI⟩ : ∃ I, T = I := ⟨_, rfl⟩
    obtain ⟨N, hN⟩ : ∃ N : Nat, I.toNat = N := ⟨_, rfl⟩
    have hN3 : N ≤ 3 := by omega
    have hname2 := Hname.out
    go_wp2_with fail
    refine (hname2 _).mono ?_
    rintro e w3 ⟨rfl, e3⟩
    obtain ⟨n0, n1, n2⟩ := (N2.ext e3).1
    have x3 := x2.trans e3
    clear N2 x2 e3 hname2 Hname
    go_wp2_with fail
    obtain ⟨w0, rfl⟩ : ∃ w0 : World, w0 = w3 := ⟨_, rfl⟩
    go_loopw [15, 16, 17] (fun sv mv iv wr => nmRel w0 nm [a, b, c] N sv mv iv wr) (fun _ _ iv _ => N - (intOf iv).toNat)
    case atStart => exact ⟨0, true, nm, rfl, rfl, rfl, Nat.zero_le _, Lib.hid (by simp [argsT]), Lib.hid (by simp), Ext.refl _⟩
    case round =>
      obtain ⟨i, sm, S, rfl, rfl, rfl, hi, hS, hsm, hXr⟩ := hrel
      have hi1 : IntKind.i64.wrap ((i : Int) + 1) = (i : Int) + 1 := by rw [IntKind.wrap_i64]; omega
      have hSl : S.length ≤ 68 := by
        rw [hS.out, ← Hnm.out]
        exact names_short q _ (fun v hv => by
          have := List.mem_of_mem_take hv
          simp only [List.mem_cons, List.not_mem_nil, or_false] at this
          rcases this with rfl | rfl | rfl
          · exact ⟨a0, a1⟩
          · exact ⟨b0, b1⟩
          · exact ⟨c0, c1⟩) (by simp; omega)
      have m0 := hXr.cell n0
      have m1 := hXr.cell n1
      have m2 := hXr.cell n2
      by_cases hjN : i < N
      · have hjd : decide ((i : Int) < I) = true := decide_eq_true (by omega)
        have hi3 : i < 3 := by omega
        have hii : (0 : Int) ≤ (i : Int) ∧ (i : Int) < 3 := by omega
        have hjc : wr.cell? ⟨gl, i, none⟩ = some (.int .i64 (([a, b, c] : List Int).getD i 0)) := by
          rcases (show i = 0 ∨ i = 1 ∨ i = 2 by omega) with rfl | rfl | rfl
          · exact m0
          · exact m1
          · exact m2
        have Hvi := Lib.hid (show ([a, b, c] : List Int).take (i + 1) = [a, b, c].take i ++ [([a, b, c] : List Int).getD i 0] by
          rcases (show i = 0 ∨ i = 1 ∨ i = 2 by omega) with rfl | rfl | rfl <;> rfl)
        have hvb : -9223372036854775808 ≤ ([a, b, c] : List Int).getD i 0 ∧ ([a, b, c] : List Int).getD i 0 ≤ 9223372036854775807 := by
          rcases (show i = 0 ∨ i = 1 ∨ i = 2 by omega) with rfl | rfl | rfl <;> simp <;> omega
        generalize ([a, b, c] : List Int).getD i 0 = v at *
        have hdl := decL_len hvb.1 hvb.2
        have Hv := Lib.hid (show bs S ++ (({ data := #[32] } : ByteArray) ++ bs (decL v)) = bs (S ++ 32 :: decL v) by
          show bs S ++ (bs [32] ++ bs (decL v)) = _
          rw [bs_add, bs_add]; simp)
        clear m0 m1 m2
        by_cases hlo : -2147483648 ≤ v
        · have dlo : decide (-2147483648 ≤ v) = true := decide_eq_true hlo
          by_cases hhi : v ≤ 2147483647
          · have dhi : decide (v ≤ 2147483647) = true := decide_eq_true hhi
            have Hs := Lib.hid (show true = (true && smallI v) by unfold smallI; rw [dlo, dhi]; rfl)
            cases sm with
            | true =>
              go_wp2_with fail
              refine (decimal_any wr v hvb.1 hvb.2).mono ?_
              rintro e w5 ⟨rfl, e5⟩
              have hjc := e5.cell hjc
              have hc1 : ((9223372036854775807 : Nat) < 1 + (decL v).length) = False := eq_false (by omega)
              have hc2 : ((9223372036854775807 : Nat) < S.length + (1 + (decL v).length)) = False := eq_false (by omega)
              go_wp2_with fail
              go_roundw
              case rel => exact nm_next hjN hS.out hsm.out Hvi.out Hs.out (congrArg Value.string Hv.out) (hXr.trans e5) rfl
              case measure => simp [intOf]; omega
            | false =>
              have Hs := Lib.hid (show false = (false && smallI v) from rfl)
              go_wp2_with fail
              refine (decimal_any wr v hvb.1 hvb.2).mono ?_
              rintro e w5 ⟨rfl, e5⟩
              have hjc := e5.cell hjc
              have hc1 : ((9223372036854775807 : Nat) < 1 + (decL v).length) = False := eq_false (by omega)
              have hc2 : ((9223372036854775807 : Nat) < S.length + (1 + (decL v).length)) = False := eq_false (by omega)
              go_wp2_with fail
              go_roundw
              case rel => exact nm_next hjN hS.out hsm.out Hvi.out Hs.out (congrArg Value.string Hv.out) (hXr.trans e5) rfl
              case measure => simp [intOf]; omega
          · have dhi : decide (v ≤ 2147483647) = false := decide_eq_false hhi
            have Hs := Lib.hid (show false = (true && smallI v) by unfold smallI; rw [dlo, dhi]; rfl)
            cases sm with
            | true =>
              go_wp2_with fail
              refine (decimal_any wr v hvb.1 hvb.2).mono ?_
              rintro e w5 ⟨rfl, e5⟩
              have hjc := e5.cell hjc
              have hc1 : ((9223372036854775807 : Nat) < 1 + (decL v).length) = False := eq_false (by omega)
              have hc2 : ((9223372036854775807 : Nat) < S.length + (1 + (decL v).length)) = False := eq_false (by omega)
              go_wp2_with fail
              go_roundw
              case rel => exact nm_next hjN hS.out hsm.out Hvi.out Hs.out (congrArg Value.string Hv.out) (hXr.trans e5) rfl
              case measure => simp [intOf]; omega
            | false =>
              have Hs := Lib.hid (show false = (false && smallI v) from rfl)
              go_wp2_with fail
              refine (decimal_any wr v hvb.1 hvb.2).mono ?_
              rintro e w5 ⟨rfl, e5⟩
              have hjc := e5.cell hjc
              have hc1 : ((9223372036854775807 : Nat) < 1 + (decL v).length) = False := eq_false (by omega)
              have hc2 : ((9223372036854775807 : Nat) < S.length + (1 + (decL v).length)) = False := eq_false (by omega)
              go_wp2_with fail
              go_roundw
              case rel => exact nm_next hjN hS.out hsm.out Hvi.out Hs.out (congrArg Value.string Hv.out) (hXr.trans e5) rfl
              case measure => simp [intOf]; omega
        · have dlo : decide (-2147483648 ≤ v) = false := decide_eq_false hlo
          have Hs := Lib.hid (show false = (true && smallI v) by unfold smallI; rw [dlo]; rfl)
          cases sm with
          | true =>
            go_wp2_with fail
            refine (decimal_any wr v hvb.1 hvb.2).mono ?_
            rintro e w5 ⟨rfl, e5⟩
            have hjc := e5.cell hjc
            have hc1 : ((9223372036854775807 : Nat) < 1 + (decL v).length) = False := eq_false (by omega)
            have hc2 : ((9223372036854775807 : Nat) < S.length + (1 + (decL v).length)) = False := eq_false (by omega)
            go_wp2_with fail
            go_roundw
            case rel => exact nm_next hjN hS.out hsm.out Hvi.out Hs.out (congrArg Value.string Hv.out) (hXr.trans e5) rfl
            case measure => simp [intOf]; omega
          | false =>
            have Hs := Lib.hid (show false = (false && smallI v) from rfl)
            go_wp2_with fail
            refine (decimal_any wr v hvb.1 hvb.2).mono ?_
            rintro e w5 ⟨rfl, e5⟩
            have hjc := e5.cell hjc
            have hc1 : ((9223372036854775807 : Nat) < 1 + (decL v).length) = False := eq_false (by omega)
            have hc2 : ((9223372036854775807 : Nat) < S.length + (1 + (decL v).length)) = False := eq_false (by omega)
            go_wp2_with fail
            go_roundw
            case rel => exact nm_next hjN hS.out hsm.out Hvi.out Hs.out (congrArg Value.string Hv.out) (hXr.trans e5) rfl
            case measure => simp [intOf]; omega
      · obtain rfl : i = N := by omega
        have hjd : decide ((i : Int) < I) = false := decide_eq_false (by omega)
        have hpar := names_parse hq (([a, b, c] : List Int).take i)
        rw [Hnm.out, ← hS.out, ← hsm.out] at hpar
        have hlt3 : (([a, b, c] : List Int).take i).length = i := by simp; omega
        rw [hlt3, HT.out] at hpar
        have hcat : ((9223372036854775807 : Nat) < 8 + S.length) = False := eq_false (by omega)
        have hst : ({ data := #[116, 105, 116, 108, 101, 32, 116, 10] } : ByteArray) ++ bs S = bs (nameT ++ S) := by
          show bs nameT ++ bs S = _
          rw [bs_add]
        have hSl2 : (nameT ++ S).length ≤ 1099511627776 := by simp [nameT]; omega
        have Hst := Lib.hid hst
        have x4 := x3.trans hXr
        clear hst hlt3
        have hiT : (i : Int) = T := by omega
        have dn : decide (I < 0) = false := decide_eq_false (by omega)
        have dn2 : decide (0 ≤ I) = true := decide_eq_true (by omega)
        cases sm with
        | false =>
          have hpn : parseL (nameT ++ S) = .inl 2 := by rw [hpar, if_neg (by rintro ⟨-, h⟩; cases h)]
          have hcall := fun W => aparse_no W _ hSl2 hpn
          have Hcall := Lib.hid hcall
          clear hcall hpn hpar hS hsm
          go_wp2_with (rw [Hst.out])
          refine (Hcall.out _).mono ?_
          rintro e w7 ⟨rfl, e7⟩
          go_wp2_with fail
          go_ret
          exact ⟨rfl, (x4.trans e7).trans (Ext.alloc _ _)⟩
        | true =>
          have hpy : parseL (nameT ++ S) = .inr ([116], [mkO q (([a, b, c] : List Int).take i)]) := by
            rw [hpar, if_pos ⟨hiT, rfl⟩]
          have hcall := fun W => aparse_yes W _ hSl2 hpy
          have Hcall := Lib.hid hcall
          clear hcall hpy hpar hS hsm
          obtain ⟨wo, rfl⟩ : ∃ wo : World, wo = wr := ⟨_, rfl⟩
          go_wp2_with (rw [Hst.out])
          refine (Hcall.out _).mono ?_
          rintro e w7 ⟨B, m, d, rfl, hro, e7⟩
          have hm1 : m = 1 := hro.len
          subst hm1
          obtain ⟨ob, oo, rfl, k0, k1, k2, k3⟩ := hro.at_ (k := 0) (by simp)
          simp only [List.getElem_cons_zero, Nat.zero_mul, Nat.add_zero, mkO] at k0 k1 k2 k3
          have x7 := x4.trans e7
          have l0 := e7.cell m0
          have l1 := e7.cell m1
          have l2 := e7.cell m2
          have Hg : RowKit.Hid (∀ j : Nat, j < 3 → (((j : Int) < T → (([a, b, c] : List Int).take i).getD j 0 = ([a, b, c] : List Int).getD j 0) ∧ (¬ (j : Int) < T → (([a, b, c] : List Int).take i).getD j 0 = 0))) := Lib.hid fun j hj => by
            refine ⟨fun h => ?_, fun h => ?_⟩
            · rw [List.getD_eq_getElem?_getD, List.getElem?_take_of_lt (by omega), List.getD_eq_getElem?_getD]
            · rw [List.getD_eq_getElem?_getD, List.getElem?_eq_none (by simp; omega)]; rfl
          obtain ⟨y0, hy0⟩ : ∃ y, (([a, b, c] : List Int).take i).getD 0 0 = y := ⟨_, rfl⟩
          obtain ⟨y1, hy1⟩ : ∃ y, (([a, b, c] : List Int).take i).getD 1 0 = y := ⟨_, rfl⟩
          obtain ⟨y2, hy2⟩ : ∃ y, (([a, b, c] : List Int).take i).getD 2 0 = y := ⟨_, rfl⟩
          rw [hy0] at k1
          rw [hy1] at k2
          rw [hy2] at k3
          have Hy : RowKit.Hid (∀ j : Nat, j < 3 → ([y0, y1, y2] : List Int).getD j 0 = (([a, b, c] : List Int).take i).getD j 0) := Lib.hid fun j hj => by
            rcases (show j = 0 ∨ j = 1 ∨ j = 2 by omega) with rfl | rfl | rfl
            · exact hy0.symm
            · exact hy1.symm
            · exact hy2.symm
          clear hy0 hy1 hy2 hro Hcall m0 m1 m2 n0 n1 n2
          go_upto_region 18 with fail
          generalize hV3 : World.alloc w7 _ = V3
          have eV3 : Ext w7 V3 := by subst hV3; exact Ext.alloc _ _
          have P3 : PBox V3 w7.heap.size [116] (some ⟨ob, oo, none⟩) 1 d := by subst hV3; exact PBox.new _ _ _ _ _ _ rfl
          have k0 := eV3.cell k0
          have k1 := eV3.cell k1
          have k2 := eV3.cell k2
          have k3 := eV3.cell k3
          have l0 := eV3.cell l0
          have l1 := eV3.cell l1
          have l2 := eV3.cell l2
          have x8 := x7.trans eV3
          clear hV3 eV3 x7
          generalize w7.heap.size = g7 at *
          obtain ⟨p0, p1, -⟩ := id P3
          go_wp2_with fail
          apply wp_region_lex (R := Ext) (by kernel_rfl) (by kernel_rfl) Ext.refl (fun _ _ _ => Ext.trans) (Ext.drew _)
          repeat
            apply lex_ex Ext.refl
            · rfl
            · intro W hR hΦ
              have p0 := hR.cell p0
              have p1 := hR.cell p1
              have k0 := hR.cell k0
              have k1 := hR.cell k1
              have k2 := hR.cell k2
              have k3 := hR.cell k3
              go_simp
              first | done | with_reducible rfl
            simp only [Act.put, List.setIfInBounds_toArray, List.set_cons_zero, List.set_cons_succ]
          apply lex_new (p := fun v W => ∃ g, v = .slice (some ⟨g, 0, none⟩) 3 3 ∧ NBox W g y0 y1 y2) (fun _ _ _ ⟨g, h1, h2⟩ e => ⟨g, h1, h2.ext e⟩)
          · rfl
          · intro W hR hΦ
            refine ⟨.slice (some ⟨W.heap.size, 0, none⟩) 3 3, W.alloc (.cells #[.int .i64 y0, .int .i64 y1, .int .i64 y2] 3), ?_, Ext.alloc _ _, W.heap.size, rfl, NBox.new W _ _ _ _ rfl⟩
            go_simp
            first | done | rfl
          intro gv
          simp only [Act.put, List.setIfInBounds_toArray, List.set_cons_zero, List.set_cons_succ]
          apply lex_rel (p := fun v W => ∃ g, v = .slice (some ⟨g, 0, none⟩) 3 3 ∧ NBox W g y0 y1 y2) Ext.refl (fun _ _ _ ⟨g, h1, h2⟩ e => ⟨g, h1, h2.ext e⟩)
          · rfl
          · intro W hR hΦ
            obtain ⟨g, rfl, hn⟩ := hΦ.1 rfl
            refine ⟨.slice (some ⟨g, 0, none⟩) 3 3, ?_, g, rfl, hn⟩
            go_simp
            first | done | rfl
          intro gv2
          simp only [Act.put, List.setIfInBounds_toArray, List.set_cons_zero, List.set_cons_succ]
          refine lex_nil ?_
          intro W6 hR6 hΦ
          obtain ⟨gg, rfl, Ng⟩ := hΦ.1 rfl
          clear hΦ
          have l0 := hR6.cell l0
          have l1 := hR6.cell l1
          have l2 := hR6.cell l2
          have x9 := x8.trans hR6
          clear x8 hR6 k0 k1 k2 k3 p0 p1 P3
          obtain ⟨⟨y0c, y1c, y2c⟩, -⟩ := id Ng
          go_wp2_with fail
          go_loopw [22] (fun iv wr => ∃ j : Nat, iv = .int .i64 (j : Nat) ∧ j ≤ 3 ∧ Ext W6 wr) (fun iv _ => 3 - (intOf iv).toNat)
          case atStart => exact ⟨0, rfl, by omega, Ext.refl _⟩
          case round =>
            obtain ⟨j, rfl, hj, hXj⟩ := hrel
            have hj1 : IntKind.i64.wrap ((j : Int) + 1) = (j : Int) + 1 := by rw [IntKind.wrap_i64]; omega
            by_cases hj3 : j < 3
            · have hjd3 : decide ((j : Int) < 3) = true := decide_eq_true (by omega)
              have hjj : (0 : Int) ≤ (j : Int) ∧ (j : Int) < 3 := by omega
              have hlc : wr.cell? ⟨gl, j, none⟩ = some (.int .i64 (([a, b, c] : List Int).getD j 0)) := by
                refine hXj.cell ?_
                rcases (show j = 0 ∨ j = 1 ∨ j = 2 by omega) with rfl | rfl | rfl
                · exact l0
                · exact l1
                · exact l2
              have hgc : wr.cell? ⟨gg, j, none⟩ = some (.int .i64 (([y0, y1, y2] : List Int).getD j 0)) := by
                refine hXj.cell ?_
                rcases (show j = 0 ∨ j = 1 ∨ j = 2 by omega) with rfl | rfl | rfl
                · exact y0c
                · exact y1c
                · exact y2c
              rw [Hy.out j hj3] at hgc
              have hgj := Hg.out j hj3
              by_cases hjT : (j : Int) < T
              · rw [hgj.1 (by omega)] at hgc
                have djT : decide ((j : Int) < I) = true := decide_eq_true (by omega)
                have djT2 : decide (I ≤ (j : Int)) = false := decide_eq_false (by omega)
                generalize ([a, b, c] : List Int).getD j 0 = v at *
                clear hgj
                go_wp2_with fail
                apply wp_region_lex (R := Ext) (by kernel_rfl) (by kernel_rfl) Ext.refl (fun _ _ _ => Ext.trans) (Ext.drew _)
                repeat
                  first
                    | (apply lex_ex Ext.refl
                       · rfl
                       · intro W hR hΦ
                         have y0 := hR.cell hgc
                         have y1 := hR.cell hlc
                         go_simp
                         first | done | with_reducible rfl)
                    | (apply lex_skip
                       · rfl)
                  simp only [Act.put, List.setIfInBounds_toArray, List.set_cons_zero, List.set_cons_succ]
                refine lex_nil ?_
                intro W8 hR8 hΦ
                clear hΦ
                go_wp2_with fail
                go_roundw
                case rel => exact ⟨j + 1, by go_num, hj3, hXj.trans hR8⟩
                case measure => simp [intOf]; omega
              · rw [hgj.2 (by omega)] at hgc
                have djT : decide ((j : Int) < I) = false := decide_eq_false (by omega)
                have djT2 : decide (I ≤ (j : Int)) = true := decide_eq_true (by omega)
                generalize ([a, b, c] : List Int).getD j 0 = v at *
                clear hgj
                go_wp2_with fail
                apply wp_region_lex (R := Ext) (by kernel_rfl) (by kernel_rfl) Ext.refl (fun _ _ _ => Ext.trans) (Ext.drew _)
                repeat
                  first
                    | (apply lex_ex Ext.refl
                       · rfl
                       · intro W hR hΦ
                         have y0 := hR.cell hgc
                         have y1 := hR.cell hlc
                         go_simp
                         first | done | with_reducible rfl)
                    | (apply lex_skip
                       · rfl)
                  simp only [Act.put, List.setIfInBounds_toArray, List.set_cons_zero, List.set_cons_succ]
                refine lex_nil ?_
                intro W8 hR8 hΦ
                clear hΦ
                go_wp2_with fail
                go_roundw
                case rel => exact ⟨j + 1, by go_num, hj3, hXj.trans hR8⟩
                case measure => simp [intOf]; omega
            · obtain rfl : j = 3 := by omega
              go_wp2_with fail
              go_ret
              exact ⟨rfl, x9.trans hXj⟩
end Go.Proofs.YtbmgiidecidojaaDoor
