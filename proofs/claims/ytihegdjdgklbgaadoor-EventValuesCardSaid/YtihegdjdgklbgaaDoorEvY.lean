/- Events: Text; the law's must. -/
import Derived.Test.YtihegdjdgklbgaaDoorEvX
import Derived.Test.YtihegdjdgklbgaaDoorRuneM
import Derived.Test.YtihegdjdgklbgaaDoorShelf
import Derived.Test.YtihegdjdgklbgaaDoorReg
import Derived.Lib.AppendIntMem
import Derived.Lib.LaidTab
namespace Go.Proofs.YtihegdjdgklbgaaDoor
set_option maxRecDepth 100000
open Go.RowKit
set_option linter.unusedVariables false

theorem g_pow : Tryd.prog.globalNamed "internal/strconv.uint64pow10" = some 0 := by kernel_rfl
abbrev Pow (w : World) : Prop := Lib.TabIs Tryd.prog w "internal/strconv.uint64pow10" .u64 Lib.pow10Tab
theorem pow_ext {w w' : World} (h : Pow w) (e : Ext w w') : Pow w' := by
  unfold Pow Lib.TabIs World.var? at *
  rw [g_pow] at *
  simp only [Option.bind_some] at *
  cases hq : w.heap[0]? with
  | none => rw [hq] at h; simp at h
  | some o =>
    rw [e.block _ (Array.getElem?_eq_some_iff.1 hq).1]
    exact h
theorem itoa_any (w : World) (n : Int) (h0 : 0 ≤ n) (h1 : n ≤ 1000) (ht : Pow w) : Calls Tryd.prog 18 #[.int .i64 n] w fun e w' => e = .returned (.string (bs (decL n))) ∧ Ext w w' := by
  refine (Tryd.strconv_Itoa n (by omega) (by omega) w ht).mono ?_
  rintro e w' ⟨rfl, k, os, rfl⟩
  exact ⟨by rw [itoa_dec h0]; rfl, Lib.below_grow _ w (Nat.le_refl _) k os⟩
theorem decL_small {n : Int} (h0 : 0 ≤ n) (h1 : n ≤ 1000) : (decL n).length ≤ 19 := by
  unfold decL
  rw [if_neg (by omega)]
  exact natL_len (by omega)
def textL (k p f : Int) : List UInt8 := if k = 1 then [113, 117, 105, 116, 32] ++ decL p else if k = 2 then [108, 97, 116, 101, 32] ++ decL p else if k = 3 then [97, 112, 97, 114, 116, 32] ++ decL p ++ [32] ++ decL f else []
def TextIs (w : World) (l : List UInt8) (e : Ending) (w' : World) : Prop := e = .returned (.string (bs l)) ∧ Ext w w'
set_option maxRecDepth 100000 in
set_option maxHeartbeats 1000000 in
theorem text_1 (w : World) (ht : Pow w) (p : Int) (p0 : 0 ≤ p) (p1 : p ≤ 7) : Calls Tryd.prog 9 #[.agg #[.iface 44 (.agg #[.int .i64 p])]] w (TextIs w (textL 1 p 0)) := by
  have h1 := ta_qq
  have hl := decL_small p0 (by omega : p ≤ 1000)
  have hit := fun W h => itoa_any W p p0 (by omega) h
  have Hit := Lib.hid hit
  have htx : textL 1 p 0 = [113, 117, 105, 116, 32] ++ decL p := rfl
  rw [htx]
  clear hit htx
  generalize hd : decL p = t at *
  have hcat : ((9223372036854775807 : Nat) < 5 + t.length) = False := eq_false (by omega)
  clear hd
  go_enter Tryd.func9, Tryd.ntmps9
  go_wp2_with fail
  generalize hV : World.alloc (World.alloc w _) _ = V
  have eV : Ext w V := by subst hV; exact (Ext.alloc _ _).trans (Ext.alloc _ _)
  clear hV
  refine (Hit.out V (pow_ext ht eV)).mono ?_
  rintro e w1 ⟨rfl, e1⟩
  go_wp2_with fail
  go_ret
  exact ⟨by congr 2, eV.trans e1⟩
set_option maxRecDepth 100000 in
set_option maxHeartbeats 1000000 in
theorem text_2 (w : World) (ht : Pow w) (p : Int) (p0 : 0 ≤ p) (p1 : p ≤ 7) : Calls Tryd.prog 9 #[.agg #[.iface 45 (.agg #[.int .i64 p])]] w (TextIs w (textL 2 p 0)) := by
  have h1 := ta_lq
  have h2 := ta_ll
  have hl := decL_small p0 (by omega : p ≤ 1000)
  have hit := fun W h => itoa_any W p p0 (by omega) h
  have Hit := Lib.hid hit
  have htx : textL 2 p 0 = [108, 97, 116, 101, 32] ++ decL p := rfl
  rw [htx]
  clear hit htx
  generalize hd : decL p = t at *
  have hcat : ((9223372036854775807 : Nat) < 5 + t.length) = False := eq_false (by omega)
  clear hd
  go_enter Tryd.func9, Tryd.ntmps9
  go_wp2_with fail
  generalize hV : World.alloc (World.alloc w _) _ = V
  have eV : Ext w V := by subst hV; exact (Ext.alloc _ _).trans (Ext.alloc _ _)
  clear hV
  refine (Hit.out V (pow_ext ht eV)).mono ?_
  rintro e w1 ⟨rfl, e1⟩
  go_wp2_with fail
  go_ret
  exact ⟨by congr 2, eV.trans e1⟩
set_option maxRecDepth 100000 in
set_option maxHeartbeats 1000000 in
theorem text_3 (w : World) (ht : Pow w) (p f : Int) (p0 : 0 ≤ p) (p1 : p ≤ 7) (f0 : 0 ≤ f) (f1 : f ≤ 1000) : Calls Tryd.prog 9 #[.agg #[.iface 47 (.agg #[.int .i64 p, .int .i64 f])]] w (TextIs w (textL 3 p f)) := by
  have h1 := ta_aq
  have h2 := ta_al
  have h3 := ta_aa
  have hl := decL_small p0 (by omega : p ≤ 1000)
  have hl2 := decL_small f0 f1
  have hit := fun W h => itoa_any W p p0 (by omega) h
  have hit2 := fun W h => itoa_any W f f0 f1 h
  have Hit := Lib.hid hit
  have Hit2 := Lib.hid hit2
  have htx : textL 3 p f = [97, 112, 97, 114, 116, 32] ++ decL p ++ [32] ++ decL f := rfl
  rw [htx]
  clear hit hit2 htx
  generalize decL p = t at *
  generalize decL f = u at *
  have hcat : ((9223372036854775807 : Nat) < 6 + t.length) = False := eq_false (by omega)
  have hcat2 : ((9223372036854775807 : Nat) < 6 + t.length + 1) = False := eq_false (by omega)
  have hcat3 : ((9223372036854775807 : Nat) < 6 + t.length + 1 + u.length) = False := eq_false (by omega)
  go_enter Tryd.func9, Tryd.ntmps9
  go_wp2_with fail
  generalize hV : World.alloc (World.alloc w _) _ = V
  have eV : Ext w V := by subst hV; exact (Ext.alloc _ _).trans (Ext.alloc _ _)
  have c0 : V.cell? ⟨w.heap.size + 1, 0, none⟩ = some (.int .i64 p) := by subst hV; go_simp
  have c1 : V.cell? ⟨w.heap.size + 1, 1, none⟩ = some (.int .i64 f) := by subst hV; go_simp
  clear hV
  have tV := pow_ext ht eV
  apply wp_region_lex (R := Ext) (by kernel_rfl) (by kernel_rfl) Ext.refl (fun _ _ _ => Ext.trans) (Ext.drew _)
  repeat
    apply lex_ex Ext.refl
    · rfl
    · intro W' hR hΦ
      have d1 := hR.cell c0
      have d2 := hR.cell c1
      go_simp
      first | done | with_reducible rfl
    simp only [Act.put, List.setIfInBounds_toArray, List.set_cons_zero, List.set_cons_succ]
  apply lex_callx
  · rfl
  · intro W'
    go_simp
    exact ⟨rfl, rfl⟩
  · intro W' hR hΦ
    exact (Hit.out _ (pow_ext tV hR)).mono fun _ _ h => h
  simp only [Act.put, List.setIfInBounds_toArray, List.set_cons_zero, List.set_cons_succ]
  repeat
    apply lex_ex Ext.refl
    · rfl
    · intro W' hR hΦ
      have d1 := hR.cell c0
      have d2 := hR.cell c1
      go_simp
      first | done | with_reducible rfl
    simp only [Act.put, List.setIfInBounds_toArray, List.set_cons_zero, List.set_cons_succ]
  apply lex_callx
  · rfl
  · intro W'
    go_simp
    exact ⟨rfl, rfl⟩
  · intro W' hR hΦ
    exact (Hit2.out _ (pow_ext tV hR)).mono fun _ _ h => h
  simp only [Act.put, List.setIfInBounds_toArray, List.set_cons_zero, List.set_cons_succ]
  repeat
    apply lex_ex Ext.refl
    · rfl
    · intro W' hR hΦ
      go_simp
      first | done | with_reducible rfl
    simp only [Act.put, List.setIfInBounds_toArray, List.set_cons_zero, List.set_cons_succ]
  refine lex_nil ?_
  intro W5 hR5 hΦ
  clear hΦ
  go_wp2_with fail
  go_ret
  exact ⟨by congr 2, eV.trans hR5⟩
theorem text_0 (w : World) : Calls Tryd.prog 9 #[.agg #[.nilIface]] w (TextIs w []) := by
  have h1 := ta_nq
  have h2 := ta_nl
  have h3 := ta_na
  go_enter Tryd.func9, Tryd.ntmps9
  go_wp2_with fail
  go_ret
  exact ⟨rfl, by repeat (first | exact (Below.refl _ _).alloc (Nat.le_refl _) _ | refine Below.alloc ?_ (by simp <;> omega) _ | refine Below.setCell ?_ (by simp <;> omega) _)⟩
theorem textev (w : World) (ht : Pow w) (k p f : Int) (h : mayE k p f = true) : Calls Tryd.prog 9 #[.agg #[evW k p f]] w (TextIs w (textL k p f)) := by
  obtain ⟨⟨p0, p1⟩, hw⟩ := mayE_ways h
  rcases hw with ⟨rfl, rfl⟩ | ⟨rfl, rfl⟩ | ⟨rfl, f0, f1⟩
  · exact text_1 w ht p p0 p1
  · exact text_2 w ht p p0 p1
  · exact text_3 w ht p f p0 p1 f0 f1
theorem playerev (w : World) (k p f : Int) (h : mayE k p f = true) : Calls Tryd.prog 13 #[.agg #[evW k p f]] w (Num w p) := by
  obtain ⟨⟨p0, p1⟩, hw⟩ := mayE_ways h
  rcases hw with ⟨rfl, rfl⟩ | ⟨rfl, rfl⟩ | ⟨rfl, f0, f1⟩
  · exact player_1 w p
  · exact player_2 w p
  · exact player_3 w p f
theorem rawev (w : World) (k p f : Int) (h : mayE k p f = true) : Calls Tryd.prog 12 #[.agg #[evW k p f]] w (RawIs w k p f) := by
  obtain ⟨⟨p0, p1⟩, hw⟩ := mayE_ways h
  rcases hw with ⟨rfl, rfl⟩ | ⟨rfl, rfl⟩ | ⟨rfl, f0, f1⟩
  · exact raw_1 w p
  · exact raw_2 w p
  · exact raw_3 w p f
theorem frameev (w : World) (k p f : Int) (h : mayE k p f = true) : Calls Tryd.prog 14 #[.agg #[evW k p f]] w (FrIs w (if k = 3 then f else 0) (decide (k = 3))) := by
  obtain ⟨⟨p0, p1⟩, hw⟩ := mayE_ways h
  rcases hw with ⟨rfl, rfl⟩ | ⟨rfl, rfl⟩ | ⟨rfl, f0, f1⟩
  · exact frame_1 w p
  · exact frame_2 w p
  · exact frame_3 w p f
end Go.Proofs.YtihegdjdgklbgaaDoor
