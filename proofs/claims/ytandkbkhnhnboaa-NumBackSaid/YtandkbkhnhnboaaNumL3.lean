/- The walk of the law NumBack. -/
import Derived.Test.YtandkbkhnhnboaaNumL1
import Derived.Test.YtandkbkhnhnboaaRow
import Derived.Test.YtandkbkhnhnboaaReg
namespace Go.Proofs.Ytandkbkhnhnboaa
open Go.RowKit

set_option maxRecDepth 100000 in
set_option maxHeartbeats 4000000 in
theorem back_walk (w : World) (A : Option Addr) (na ca : Nat) (la : List UInt8) (hra : Rb w A na ca la) (B : Option Addr) (nb cb : Nat) (lb : List UInt8) (hrb : Rb w B nb cb lb)
    (n : Int) (h0 : -9223372036854775808 ≤ n) (h1 : n ≤ 9223372036854775807) (s : List UInt8) (hs : s.length ≤ maxLen) (u : Nat) (hu : u < 4294967296) :
    Calls Try.prog 3 #[.slice A na ca, .slice B nb cb, .int .i64 n, .string (bs s), .int .u32 (u : Nat)] w (Yes w) := by
  obtain ⟨i, hi, hz0, hz1, hz2⟩ := info_parts info_u8
  go_enter Try.func3, Try.ntmps3
  go_wp2_with fail
  refine (begun_any w).mono ?_
  rintro e w1 ⟨rfl, e1⟩
  go_wp2_with fail
  refine (short_any A na ca 20 w1 hra.max).mono ?_
  rintro e w2 ⟨rfl, rfl⟩
  go_wp2_with fail
  refine (short_any B nb cb 20 w1 hrb.max).mono ?_
  rintro e w2 ⟨rfl, rfl⟩
  go_wp2_with fail
  refine (cut_any s 100 w1 hs).mono ?_
  rintro e w2 ⟨rfl, rfl⟩
  have hra1 : Rb w A (min na 20) ca (la.take (min na 20)) := hra.take (by omega)
  have hrb1 : Rb w B (min nb 20) cb (lb.take (min nb 20)) := hrb.take (by omega)
  have hma : min na 20 ≤ 20 := by omega
  have hmb : min nb 20 ≤ 20 := by omega
  have hst : (s.take 100).length ≤ 100 := List.length_take_le _ _
  generalize min na 20 = ma at *
  generalize min nb 20 = mb at *
  generalize la.take ma = ta at *
  generalize lb.take mb = tb at *
  generalize s.take 100 = t at *
  clear hra hrb hs
  go_wp2_with (at_builtin; refine wpList_append_nil _ rfl _ _ 22 rfl w.heap.size 5 i (.int .u8 0) 1 1 Try.underlying22 hi hz0 hz1 hz2 rfl (by decide) rfl A ma ca _ rfl (hra1.ext e1) (bcs_one _) (by unfold maxLen; omega) (by omega) e1.size ?_; intro B2 d2 w2 ho2 e2)
  refine (put_any w.heap.size B2 ma d2 ta n w2 h0 h1 ho2 (by omega) (by have := e1.size; have := e2.size; omega)).mono ?_
  rintro e w3 ⟨B3, m3, d3, rfl, ho3, hg3, hw3⟩
  have e3 : Ext w w3 := (e1.trans e2).own hg3 ho2.blk_ge
  have hra3 : Rb w3 A ma ca ta := hra1.ext e3
  have hr3 : Rb w3 B3 m3 d3 (ta ++ putL n) := Rb.of ho3.rd rfl
  have hta : ta.length ≤ 20 := by have := hra1.len; omega
  have hno : (9223372036854775807 < ta.length + (putL n).length) = False := by have := putL_le n; simp; omega
  have cA : ∀ W, Ext w3 W → (convert 22 9 (.slice A ma ca)).run Try.prog W = .ok (.string (bs ta)) W := fun W h => run_string_of (P := Try.prog) W 22 9 5 Try.underlying22 Try.underlying5 Try.underlying9 _ _ _ _ (hra3.ext h)
  have cB : ∀ W, Ext w3 W → (convert 22 9 (.slice B3 m3 d3)).run Try.prog W = .ok (.string (bs (ta ++ putL n))) W := fun W h => run_string_of (P := Try.prog) W 22 9 5 Try.underlying22 Try.underlying5 Try.underlying9 _ _ _ _ (hr3.ext h)
  go_wp2_with fail
  apply wp_region_lex (R := Ext) (by kernel_rfl) (by kernel_rfl) Ext.refl (fun _ _ _ => Ext.trans) (Ext.drew _)
  repeat
    first
      | (apply lex_ex Ext.refl
         · rfl
         · intro w hR hΦ
           go_simp
           first | done | with_reducible rfl
         simp only [Act.put, List.setIfInBounds_toArray, List.set_cons_zero, List.set_cons_succ])
  apply lex_call (p := SlB (putL n)) (SlB.stab _)
  · rfl
  · intro w
    go_simp
    exact ⟨rfl, rfl⟩
  · intro w hR hΦ
    exact (rput_any n _ h0 h1).mono fun _ _ h => SlB.of_appended h
  intro v38
  simp only [Act.put, List.setIfInBounds_toArray, List.set_cons_zero, List.set_cons_succ]
  apply lex_ex Ext.refl (u := .string (bs (putL n)))
  · rfl
  · intro w hR hΦ
    have hcv := conv_slb (P := Try.prog) (dst := 9) Try.underlying22 Try.underlying5 Try.underlying9 (hΦ.1 rfl)
    go_simp
    first | done | with_reducible rfl
  simp only [Act.put, List.setIfInBounds_toArray, List.set_cons_zero, List.set_cons_succ]
  repeat
    first
      | (apply lex_ex Ext.refl
         · rfl
         · intro w hR hΦ
           go_simp
           first | done | with_reducible rfl
         simp only [Act.put, List.setIfInBounds_toArray, List.set_cons_zero, List.set_cons_succ])
  refine lex_nil ?_
  intro w4 e4 _
  have e5 : Ext w w4 := e3.trans e4
  have hml : ma ≤ m3 := by have h1 := hr3.len; have h2 := hra1.len; rw [List.length_append] at h1; omega
  have hm3 : m3 ≤ 30 := by have h1 := hr3.len; have h2 := putL_le n; rw [List.length_append] at h1; omega
  obtain ⟨B4, hB4, hr4'⟩ := hr3.cut hml
  have hr4 := hr4'.ext e4
  rw [show ma = ta.length from hra1.len, List.drop_left, ← show ma = ta.length from hra1.len] at hr4
  have hd3 := hr3.max
  unfold maxLen at hd3
  have hrb4 : Rb w4 B mb cb tb := hrb1.ext e5
  clear cA cB hno
  have ht1 : True := trivial
  go_wp2_with (at_builtin; first
    | (have _t := ht1; refine wpList_append_nil _ rfl _ _ 22 rfl w.heap.size 5 i (.int .u8 0) 1 1 Try.underlying22 hi hz0 hz1 hz2 rfl (by decide) rfl _ (m3 - ma) (d3 - ma) _ rfl hr4 (bcs_one _) (by unfold maxLen; omega) (by omega) e5.size ?_; intro B6 d6 w6 ho6 e6; clear ht1 _t)
    | (refine wpList_append_to _ rfl _ _ 22 rfl w.heap.size 5 i (.int .u8 0) 1 1 Try.underlying22 hi hz0 hz1 hz2 rfl (by decide) B6 (m3 - ma) d6 _ rfl ho6 B mb cb _ rfl (hrb4.ext e6) (bcs_one _) (by unfold maxLen; omega) (by omega) (e5.trans e6).size ?_; intro B7 d7 w7 ho7 hg7 hw7))
  have e7 : Ext w w7 := (e5.trans e6).own hg7 ho6.blk_ge
  have hr7 : Rb w7 B7 (m3 - ma + mb) d7 (putL n ++ tb) := Rb.of ho7.rd (by rw [bcs_append])
  have hg7' := get_any _ _ _ _ _ hr7
  rw [get_put h0 h1] at hg7'
  refine hg7'.mono ?_
  rintro e w8 ⟨rfl, rfl⟩
  have hm3' : ((putL n).length : Int) = (m3 : Int) - (ma : Int) := by have h1 := hr3.len; have h2 := hra1.len; rw [List.length_append] at h1; omega
  have Hm3 := Lib.hid hm3'
  clear hm3' hg7' hr4 hrb4 ho6 hg7 hw7 ho7 hr7
  go_wp2_with (at_builtin; refine wpList_append_nil _ rfl _ _ 22 rfl w.heap.size 5 i (.int .u8 0) 1 1 Try.underlying22 hi hz0 hz1 hz2 rfl (by decide) rfl A ma ca _ rfl (hra1.ext e7) (bcs_one _) (by unfold maxLen; omega) (by omega) e7.size ?_; intro B8 d8 w8 ho8 e8)
  clear hB4
  refine (bytes_any w.heap.size B8 ma d8 ta t w8 (by omega) ho8 (by omega) (e7.trans e8).size).mono ?_
  rintro e w9 ⟨B9, m9, d9, rfl, ho9, hg9, hw9⟩
  have e9 : Ext w w9 := (e7.trans e8).own hg9 ho8.blk_ge
  have hr9 : Rb w9 B9 m9 d9 (ta ++ bytesL t) := Rb.of ho9.rd rfl
  have hbl : (bytesL t).length ≤ 110 := by have := putL_le t.length; simp [bytesL]; omega
  have hno : (9223372036854775807 < ta.length + (bytesL t).length) = False := by simp; omega
  have cA : ∀ W, Ext w9 W → (convert 22 9 (.slice A ma ca)).run Try.prog W = .ok (.string (bs ta)) W := fun W h => run_string_of (P := Try.prog) W 22 9 5 Try.underlying22 Try.underlying5 Try.underlying9 _ _ _ _ ((hra1.ext e9).ext h)
  have cB : ∀ W, Ext w9 W → (convert 22 9 (.slice B9 m9 d9)).run Try.prog W = .ok (.string (bs (ta ++ bytesL t))) W := fun W h => run_string_of (P := Try.prog) W 22 9 5 Try.underlying22 Try.underlying5 Try.underlying9 _ _ _ _ (hr9.ext h)
  go_wp2_with fail
  apply wp_region_lex (R := Ext) (by kernel_rfl) (by kernel_rfl) Ext.refl (fun _ _ _ => Ext.trans) (Ext.drew _)
  iterate 5
    apply lex_ex Ext.refl
    · rfl
    · intro w hR hΦ
      go_simp
      first | done | with_reducible rfl
    simp only [Act.put, List.setIfInBounds_toArray, List.set_cons_zero, List.set_cons_succ]
  apply lex_call (p := SlB (bytesL t)) (SlB.stab _)
  · rfl
  · intro w
    go_simp
    exact ⟨rfl, rfl⟩
  · intro w hR hΦ
    exact (ptext_any t _ (by omega)).mono fun _ _ h => SlB.of_appended h
  intro v63
  simp only [Act.put, List.setIfInBounds_toArray, List.set_cons_zero, List.set_cons_succ]
  apply lex_ex Ext.refl (u := .string (bs (bytesL t)))
  · rfl
  · intro w hR hΦ
    have hcv := conv_slb (P := Try.prog) (dst := 9) Try.underlying22 Try.underlying5 Try.underlying9 (hΦ.1 rfl)
    go_simp
    first | done | with_reducible rfl
  simp only [Act.put, List.setIfInBounds_toArray, List.set_cons_zero, List.set_cons_succ]
  iterate 2
    apply lex_ex Ext.refl
    · rfl
    · intro w hR hΦ
      go_simp
      first | done | with_reducible rfl
    simp only [Act.put, List.setIfInBounds_toArray, List.set_cons_zero, List.set_cons_succ]
  refine lex_nil ?_
  intro w10 e10' _
  have e10 : Ext w w10 := e9.trans e10'
  have hml9 : ma ≤ m9 := by have h1 := hr9.len; have h2 := hra1.len; rw [List.length_append] at h1; omega
  have hm9 : m9 ≤ 130 := by have h1 := hr9.len; rw [List.length_append] at h1; omega
  obtain ⟨B10, hB10, hr10'⟩ := hr9.cut hml9
  have hr10 := hr10'.ext e10'
  rw [show ma = ta.length from hra1.len, List.drop_left, ← show ma = ta.length from hra1.len] at hr10
  have hd9 := hr9.max
  unfold maxLen at hd9
  have hrb10 : Rb w10 B mb cb tb := hrb1.ext e10
  clear cA cB hno
  have ht1 : True := trivial
  go_wp2_with (at_builtin; first
    | (have _t := ht1; refine wpList_append_nil _ rfl _ _ 22 rfl w.heap.size 5 i (.int .u8 0) 1 1 Try.underlying22 hi hz0 hz1 hz2 rfl (by decide) rfl _ (m9 - ma) (d9 - ma) _ rfl hr10 (bcs_one _) (by unfold maxLen; omega) (by omega) e10.size ?_; intro B11 d11 w11 ho11 e11; clear ht1 _t)
    | (refine wpList_append_to _ rfl _ _ 22 rfl w.heap.size 5 i (.int .u8 0) 1 1 Try.underlying22 hi hz0 hz1 hz2 rfl (by decide) B11 (m9 - ma) d11 _ rfl ho11 B mb cb _ rfl (hrb10.ext e11) (bcs_one _) (by unfold maxLen; omega) (by omega) (e10.trans e11).size ?_; intro B12 d12 w12 ho12 hg12 hw12))
  have e12 : Ext w w12 := (e10.trans e11).own hg12 ho11.blk_ge
  have hr12 : Rb w12 B12 (m9 - ma + mb) d12 (bytesL t ++ tb) := Rb.of ho12.rd (by rw [bcs_append])
  have hg12' := text_any _ _ _ _ _ hr12
  rw [text_put t tb (by omega)] at hg12'
  refine hg12'.mono ?_
  rintro e w13 ⟨rfl, rfl⟩
  have hm9' : ((bytesL t).length : Int) = (m9 : Int) - (ma : Int) := by have h1 := hr9.len; have h2 := hra1.len; rw [List.length_append] at h1; omega
  have hm3' := Hm3.out
  have hw1 : IntKind.i64.wrap ((m3 : Int) - (ma : Int)) = (m3 : Int) - (ma : Int) := IntWalk.i64_in _ (by omega)
  have hw2 : IntKind.i64.wrap ((m9 : Int) - (ma : Int)) = (m9 : Int) - (ma : Int) := IntWalk.i64_in _ (by omega)
  clear hg12' hr10 hrb10 ho11 hg12 hw12 ho12 hr12 hB10
  go_wp2_with fail
  apply wp_region_lex (R := Ext) (by kernel_rfl) (by kernel_rfl) Ext.refl (fun _ _ _ => Ext.trans) (Ext.drew _)
  repeat
    apply lex_ex Ext.refl
    · rfl
    · intro w hR hΦ
      go_simp
      first | done | with_reducible rfl
    simp only [Act.put, List.setIfInBounds_toArray, List.set_cons_zero, List.set_cons_succ]
  apply lex_call (p := SlB (fourL u)) (SlB.stab _)
  · rfl
  · intro w
    go_simp
    exact ⟨rfl, rfl⟩
  · intro w hR hΦ
    exact (four_any u _ hu).mono fun _ _ h => SlB.of_made h
  intro v1
  simp only [Act.put, List.setIfInBounds_toArray, List.set_cons_zero, List.set_cons_succ]
  apply lex_ex Ext.refl (u := .string (bs (fourL u)))
  · rfl
  · intro w hR hΦ
    have hcv := conv_slb (P := Try.prog) (dst := 9) Try.underlying22 Try.underlying5 Try.underlying9 (hΦ.1 rfl)
    go_simp
    first | done | with_reducible rfl
  simp only [Act.put, List.setIfInBounds_toArray, List.set_cons_zero, List.set_cons_succ]
  apply lex_ex Ext.refl
  · rfl
  · intro w hR hΦ
    go_simp
    first | done | with_reducible rfl
  simp only [Act.put, List.setIfInBounds_toArray, List.set_cons_zero, List.set_cons_succ]
  apply lex_call (p := SlB (fourL u)) (SlB.stab _)
  · rfl
  · intro w
    go_simp
    exact ⟨rfl, rfl⟩
  · intro w hR hΦ
    exact (rfour_any u _ hu).mono fun _ _ h => SlB.of_made h
  intro v2
  simp only [Act.put, List.setIfInBounds_toArray, List.set_cons_zero, List.set_cons_succ]
  apply lex_ex Ext.refl (u := .string (bs (fourL u)))
  · rfl
  · intro w hR hΦ
    have hcv := conv_slb (P := Try.prog) (dst := 9) Try.underlying22 Try.underlying5 Try.underlying9 (hΦ.1 rfl)
    go_simp
    first | done | with_reducible rfl
  simp only [Act.put, List.setIfInBounds_toArray, List.set_cons_zero, List.set_cons_succ]
  repeat
    apply lex_ex Ext.refl
    · rfl
    · intro w hR hΦ
      go_simp
      first | done | with_reducible rfl
    simp only [Act.put, List.setIfInBounds_toArray, List.set_cons_zero, List.set_cons_succ]
  refine lex_nil ?_
  intro w14 e14 _
  go_wp2_with fail
  go_ret
  exact ⟨rfl, e12.trans e14⟩
end Go.Proofs.Ytandkbkhnhnboaa
