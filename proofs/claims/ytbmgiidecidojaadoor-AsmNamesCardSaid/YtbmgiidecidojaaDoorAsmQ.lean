/- The walk of asm.Print. -/
import Derived.Test.YtbmgiidecidojaaDoorAsmN
namespace Go.Proofs.YtbmgiidecidojaaDoor
open Go.RowKit

/-- The head of a program's text. -/
def headL (t : List UInt8) : List UInt8 := ttlW ++ 32 :: t ++ [10]
theorem print_head (t : List UInt8) (l : List OpT) : printL t l = if formL t l = true ∧ apartL t = false then (match opsTx l with | some y => headL t ++ y | none => []) else [] := by
  unfold printL headL
  split
  · cases opsTx l with
    | none => rfl
    | some y => simp
  · rfl
theorem opsTx_at {l : List OpT} {k : Nat} (h : k < l.length) : opsTx (l.drop k) = match opTx l[k], opsTx (l.drop (k + 1)) with | some x, some y => some (x ++ 10 :: y) | _, _ => none := by
  rw [List.drop_eq_getElem_cons h]; rfl
theorem OwnM.lt {w : World} {base : Nat} {e : TypeId} {A : Option Addr} {n c : Nat} {xs : List Value} (h : OwnM w base e A n c xs) : ∀ k, blk A = some k → k < w.heap.size := by
  obtain ⟨h1, g, cur, fz, h2, h3, h4, -⟩ := h
  intro k hk
  rw [h2] at hk
  cases hk; exact (Array.getElem?_eq_some_iff.1 h4).1
theorem takesL_m1 (c : Int) : -1 ≤ takesL c := by
  unfold takesL
  repeat' split
  all_goals omega
theorem takes_code2 {x : Int} (h : ¬ takesL x < 0) : 0 ≤ x ∧ x ≤ 15 := by
  unfold takesL at h
  repeat' split at h
  all_goals omega
theorem names_len2 : ∀ c, c < 16 → (namesL.getD c []).length ≤ 5 := by decide
def apRel (w : World) (t : List UInt8) (l : List OpT) (bv iv : Value) (wr : World) : Prop :=
  ∃ (k : Nat) (y : List UInt8) (B : Option Addr) (m d : Nat), iv = .int .i64 (k : Nat) ∧ bv = .slice B m d ∧ RowKit.Hid (m = (headL t ++ y).length) ∧ k ≤ l.length ∧ RowKit.Hid (opsTx l = (opsTx (l.drop k)).map (y ++ ·)) ∧ OwnM wr w.heap.size 5 B m d (bcs (headL t ++ y)) ∧ Ext w wr ∧ m ≤ 100 + 100 * k
def aiRel (w : World) (pre : List UInt8) (T : Int) (ns : List Int) (bv iv : Value) (wr : World) : Prop :=
  ∃ (j : Nat) (p : List UInt8) (B : Option Addr) (m d : Nat), iv = .int .i64 (j : Nat) ∧ bv = .slice B m d ∧ RowKit.Hid (m = (pre ++ p).length) ∧ j ≤ 3 ∧ RowKit.Hid (argTx T 0 ns = (argTx T j (ns.drop j)).map (p ++ ·)) ∧ OwnM wr w.heap.size 5 B m d (bcs (pre ++ p)) ∧ Ext w wr ∧ m ≤ pre.length + 21 * j

set_option maxRecDepth 100000 in
set_option maxHeartbeats 8000000 in
theorem aprint_any (w : World) (hp : Pow w) (t : List UInt8) (A : Option Addr) (n c : Nat) (l : List OpT) (ht : t.length ≤ 1099511627776) (hl : Ro w A n c l) :
    Calls Tryd.prog 15 #[pAgg t A n c] w fun e w' => e = .returned (.string (bs (printL t l))) ∧ Ext w w' := by
  obtain ⟨i0, hi, hz0, hz1, hz2⟩ := info_parts info_u8
  have hV := fun W e => encode_any W t A n c l ht (hl.ext (e : Ext w W))
  have hn := hl.len
  subst hn
  have hnil := fun (W : World) (a : Option Addr) (n c : Nat) => Lib.run_eql_slice_nil (P := Tryd.prog) W 51 5 a n c 0 0 Tryd.underlying51
  unfold pAgg at *
  go_enter Tryd.func15, Tryd.ntmps15
  go_wp2_with fail
  generalize hV0 : World.alloc w _ = V0
  have x0 : Ext w V0 := by subst hV0; exact Ext.alloc _ _
  have c0 : V0.cell? ⟨w.heap.size, 0, none⟩ = some (.string (bs t)) := by subst hV0; go_simp
  have c1 : V0.cell? ⟨w.heap.size, 1, none⟩ = some (.slice A l.length c) := by subst hV0; go_simp
  clear hV0
  refine (hV V0 x0).mono ?_
  rintro e w1 (⟨hf, rfl, e1⟩ | ⟨hf, g, em, ed, rfl, ho, e1⟩)
  · have hz : printL t l = [] := by rw [print_head, if_neg (by rw [hf]; simp)]
    have Hz := Lib.hid hz
    clear hz hf hV
    go_wp2_with fail
    go_ret
    exact ⟨by rw [Hz.out]; rfl, x0.trans e1⟩
  · have Hf := Lib.hid hf
    have c0 := e1.cell c0
    have c1 := e1.cell c1
    have x1 := x0.trans e1
    obtain ⟨ap, hap⟩ : ∃ ap, apartL t = ap := ⟨_, rfl⟩
    have hcall := fun W => apart_is W t ht hap
    have Hap := Lib.hid hap
    clear hf ho hV hap e1 x0
    go_wp2_with fail
    refine (hcall _).mono ?_
    rintro e w2 ⟨rfl, rfl⟩
    clear hcall
    cases ap with
    | true =>
      have hz : printL t l = [] := by rw [print_head, if_neg (by rw [Hap.out]; simp)]
      have Hz := Lib.hid hz
      clear hz
      go_wp2_with fail
      go_ret
      exact ⟨by rw [Hz.out]; rfl, x1⟩
    | false =>
      have hz : printL t l = match opsTx l with | some y => headL t ++ y | none => [] := by rw [print_head, if_pos ⟨Hf.out, Hap.out⟩]
      have Hz := Lib.hid hz
      have ht80 : t.length ≤ 80 := by
        have := Hf.out
        unfold formL at this
        simp only [Bool.and_eq_true] at this
        exact title_len this.1.1.1
      have hcat : ((9223372036854775807 : Nat) < 6 + t.length) = False := eq_false (by omega)
      have hcat2 : ((9223372036854775807 : Nat) < 6 + t.length + 1) = False := eq_false (by omega)
      have hhl : (headL t).length = t.length + 7 := by simp [headL, ttlW]
      obtain ⟨B0, d0, W0, hcv, ho0, e0⟩ := conv_own (P := Tryd.prog) w1 9 51 5 (headL t) Tryd.underlying9 Tryd.underlying51 Tryd.underlying5 (by rw [hhl]; unfold maxLen; omega)
      have hst : ({ data := #[116, 105, 116, 108, 101, 32] } ++ bs t ++ { data := #[10] } : ByteArray) = bs (headL t) := by
        show bs [116, 105, 116, 108, 101, 32] ++ bs t ++ bs [10] = _
        rw [bs_add, bs_add]; rfl
      have ho0 : OwnM W0 w.heap.size 5 B0 (headL t).length d0 (bcs (headL t)) := by
        obtain ⟨q1, g, cur, fz, q2, q3, q4⟩ := ho0
        exact ⟨q1, g, cur, fz, q2, Nat.le_trans x1.size q3, q4⟩
      have c0 := e0.cell c0
      have c1 := e0.cell c1
      have x2 := x1.trans e0
      clear hz e0
      have Hsm : RowKit.Hid (∀ o ∈ l, (((-2147483648 ≤ o.1 ∧ o.1 ≤ 2147483647) ∧ (-2147483648 ≤ o.2.1 ∧ o.2.1 ≤ 2147483647)) ∧ (-2147483648 ≤ o.2.2.1 ∧ o.2.2.1 ≤ 2147483647)) ∧ (-2147483648 ≤ o.2.2.2 ∧ o.2.2.2 ≤ 2147483647)) := Lib.hid fun o ho => by
        have := Hf.out
        unfold formL at this
        simp only [Bool.and_eq_true, List.all_eq_true] at this
        have := this.2 o ho
        unfold smallO smallI at this
        simpa only [Bool.and_eq_true, decide_eq_true_eq] using this
      have hl64 : l.length ≤ 64 := by
        have := Hf.out
        unfold formL at this
        simp only [Bool.and_eq_true, decide_eq_true_eq] at this
        exact this.1.2
      have hm0 : (headL t).length ≤ 100 := by omega
      have Hst := Lib.hid hst
      clear hst hhl
      go_wp2_with (rw [Hst.out])
      have Hcv := hcv
      go_loopw [3, 25] (fun bv iv wr => apRel w t l bv iv wr) (fun _ iv _ => l.length - (intOf iv).toNat)
      case atStart => exact ⟨0, [], B0, _, d0, rfl, rfl, Lib.hid (by rw [List.append_nil]), Nat.zero_le _, Lib.hid (by rw [List.drop_zero]; cases opsTx l <;> rfl), by rw [List.append_nil]; exact ho0, x2, by omega⟩
      case round =>
        obtain ⟨k, y, B, m, d, rfl, rfl, hm, hk, hy, hO, hX, hmb⟩ := hrel
        by_cases hlt : k < l.length
        · obtain ⟨b, o, hAe, g0, g1, g2, g3⟩ := (hl.ext hX).at_ hlt
          have hsm := Hsm.out _ (List.getElem_mem hlt)
          have hat := opsTx_at hlt
          have Hat := Lib.hid hat
          clear hat
          subst hAe
          generalize l[k] = op at *
          obtain ⟨x, a, b', c'⟩ := op
          obtain ⟨⟨⟨hs0, hs1⟩, hs2⟩, hs3⟩ := hsm
          dsimp only at g0 g1 g2 g3 hs0 hs1 hs2 hs3
          have hki : (0 : Int) ≤ (k : Int) ∧ (k : Int) < l.length := by omega
          obtain ⟨T, hT⟩ : ∃ T, takesL x = T := ⟨_, rfl⟩
          have htk := fun W => takes_any W x (by omega) (by omega)
          rw [hT] at htk
          have Htk := Lib.hid htk
          have HT := Lib.hid hT
          have hT3 : T ≤ 3 := by rw [← hT]; exact takesL_le x
          have hT1 : -1 ≤ T := by rw [← hT]; exact takesL_m1 x
          clear htk hT
          go_upto_region 7 with fail
          generalize hV1 : World.alloc wr _ = V1
          have eV1 : Ext wr V1 := by subst hV1; exact Ext.alloc _ _
          have F1 : FBox V1 wr.heap.size x a b' c' := by subst hV1; exact FBox.new _ _ _ _ _ _ rfl
          have hO1 := hO.ext eV1
          have hX1 := hX.trans eV1
          have hBg : blk B ≠ some wr.heap.size := fun e => by have := hO.lt _ e; omega
          clear hV1 g0 g1 g2 g3 hO
          obtain ⟨⟨f0, f1, f2, f3⟩, -⟩ := id F1
          generalize wr.heap.size = gb at *
          by_cases hneg : T < 0
          · have hop : opTx (x, a, b', c') = none := by unfold opTx; dsimp only; rw [HT.out, if_pos hneg]
            have hz : printL t l = [] := by
              rw [Hz.out, hy.out, Hat.out, hop]; rfl
            have Hz2 := Lib.hid hz
            have hd1 : decide (T < 0) = true := decide_eq_true hneg
            clear hz hop
            go_wp2_with fail
            refine (Htk.out _).mono ?_
            rintro e w3 ⟨rfl, rfl⟩
            go_wp2_with fail
            go_ret
            exact ⟨by rw [Hz2.out]; rfl, hX1⟩
          · obtain ⟨h0, h15⟩ := takes_code2 (x := x) (by rw [HT.out]; exact hneg)
            obtain ⟨q, rfl⟩ := Int.eq_ofNat_of_zero_le h0
            have hq : q < 16 := by omega
            have hqi : (0 : Int) ≤ (q : Int) ∧ (q : Int) < 16 := by omega
            obtain ⟨nm, hnm⟩ : ∃ nm, namesL.getD q [] = nm := ⟨_, rfl⟩
            have hnl : nm.length ≤ 5 := by rw [← hnm]; exact names_len2 q hq
            have hop : opTx ((q : Int), a, b', c') = (argTx T 0 [a, b', c']).map (nm ++ ·) := by
              unfold opTx; dsimp only; rw [HT.out, if_neg hneg, Int.toNat_natCast, hnm]
            have Hop := Lib.hid hop
            have Hnm := Lib.hid hnm
            have hd1 : decide (T < 0) = false := decide_eq_false hneg
            clear hop hnm
            have hi0 : ∀ W, (Instr.index 55 (.agg #[.int .i64 a, .int .i64 b', .int .i64 c']) (.int .i64 0)).run Tryd.prog W = .ok (.int .i64 a) W := fun _ => by kernel_rfl
            have hi1 : ∀ W, (Instr.index 55 (.agg #[.int .i64 a, .int .i64 b', .int .i64 c']) (.int .i64 1)).run Tryd.prog W = .ok (.int .i64 b') W := fun _ => by kernel_rfl
            have hi2 : ∀ W, (Instr.index 55 (.agg #[.int .i64 a, .int .i64 b', .int .i64 c']) (.int .i64 2)).run Tryd.prog W = .ok (.int .i64 c') W := fun _ => by kernel_rfl
            go_wp2_with fail
            refine (Htk.out _).mono ?_
            rintro e w3 ⟨rfl, rfl⟩
            go_wp2_with fail
            apply wp_region_lex_tails 6 (R := Ext) (by decide) (by kernel_rfl) (by kernel_rfl) (by kernel_rfl) Ext.refl (fun _ _ _ => Ext.trans) (Ext.drew _)
            simp only [List.take_succ_cons, List.take_zero]
            apply lex_ex Ext.refl
            · rfl
            · intro W hR hΦ
              go_simp
              first | done | with_reducible rfl
            simp only [Act.put, List.setIfInBounds_toArray, List.set_cons_zero, List.set_cons_succ]
            apply lex_call (p := fun v W => ∃ g, v = .slice (some ⟨g, 0, none⟩) 16 16 ∧ NmAt W g) (fun _ _ _ ⟨g, h1, h2⟩ e => ⟨g, h1, h2.ext e⟩)
            · rfl
            · intro W
              go_simp
              exact ⟨rfl, rfl⟩
            · intro W hR hΦ
              refine (names_any W).mono ?_
              rintro e w' ⟨g, rfl, hn, -, he⟩
              exact ⟨_, rfl, he, g, rfl, hn⟩
            intro nv
            simp only [Act.put, List.setIfInBounds_toArray, List.set_cons_zero, List.set_cons_succ]
            apply lex_ex Ext.refl
            · rfl
            · intro W hR hΦ
              go_simp
              first | done | with_reducible rfl
            simp only [Act.put, List.setIfInBounds_toArray, List.set_cons_zero, List.set_cons_succ]
            apply lex_ex Ext.refl
            · rfl
            · intro W hR hΦ
              have y0 := hR.cell f0
              go_simp
              first | done | with_reducible rfl
            simp only [Act.put, List.setIfInBounds_toArray, List.set_cons_zero, List.set_cons_succ]
            apply lex_rel (p := fun v W => ∃ g, v = .pointer (some ⟨g, q, none⟩) ∧ NmAt W g) Ext.refl (fun _ _ _ ⟨g, h1, h2⟩ e => ⟨g, h1, h2.ext e⟩)
            · rfl
            · intro W hR hΦ
              obtain ⟨g, rfl, hn⟩ := hΦ.1 rfl
              refine ⟨.pointer (some ⟨g, q, none⟩), ?_, g, rfl, hn⟩
              go_simp
              first | done | rfl
            intro pv
            simp only [Act.put, List.setIfInBounds_toArray, List.set_cons_zero, List.set_cons_succ]
            apply lex_ex (u := .string (bs nm)) Ext.refl
            · rfl
            · intro W hR hΦ
              obtain ⟨g, rfl, hn⟩ := hΦ.1 rfl
              have hnc := hn q hq
              rw [Hnm.out] at hnc
              go_simp
              first | done | rfl
            simp only [Act.put, List.setIfInBounds_toArray, List.set_cons_zero, List.set_cons_succ]
            refine lex_nil ?_
            intro W4 hR4 hΦ
            clear hΦ
            simp only [List.drop_succ_cons, List.drop_zero]
            have hO4 := hO1.ext hR4
            have hX4 := hX1.trans hR4
            have f0 := hR4.cell f0
            have f1 := hR4.cell f1
            have f2 := hR4.cell f2
            have f3 := hR4.cell f3
            have hb4 := hX4.size
            clear hO1 hX1 hR4
            go_wp2_with (at_builtin; refine wpList_append_txM _ rfl _ _ 51 9 rfl w.heap.size 5 i0 Tryd.underlying51 Tryd.underlying9 hi hz0 hz1 hz2 B m d _ rfl hO4 nm rfl (by omega) hb4 ?_; intro B5 d5 w5 hO5 hg5; have f0 := hg5.cell f0 (fun e => hBg e.symm); have f1 := hg5.cell f1 (fun e => hBg e.symm); have f2 := hg5.cell f2 (fun e => hBg e.symm); have f3 := hg5.cell f3 (fun e => hBg e.symm))
            have hX5 : Ext w w5 := Ext.own hX4 hg5 hO4.ge
            have hO5 : OwnM w5 w.heap.size 5 B5 (m + nm.length) d5 (bcs (headL t ++ y ++ nm)) := by rw [bcs_append]; exact hO5
            have hpl : (headL t ++ y ++ nm).length = m + nm.length := by rw [List.length_append, ← hm.out]
            have hgb : gb < w5.heap.size := World.block_lt_of_cell? w5 _ f0
            have Hpl := Lib.hid hpl
            have hm65 : m ≤ 6500 := by omega
            clear hpl hO4 hX4 hg5 hb4 hi0 hi1 hi2
            have Hi0 : RowKit.Hid (∀ (j : Nat) W, j < 3 → (Instr.index 55 (.agg #[.int .i64 a, .int .i64 b', .int .i64 c']) (.int .i64 (j : Nat))).run Tryd.prog W = .ok (.int .i64 ([a, b', c'].getD j 0)) W) := Lib.hid fun j W hj => by
              rcases (show j = 0 ∨ j = 1 ∨ j = 2 by omega) with rfl | rfl | rfl <;> kernel_rfl
            go_loopw [3, 48] (fun bv iv wr => aiRel w (headL t ++ y ++ nm) T [a, b', c'] bv iv wr) (fun _ iv _ => 3 - (intOf iv).toNat)
            case atStart => exact ⟨0, [], B5, m + nm.length, d5, rfl, rfl, Lib.hid (by rw [List.append_nil]; exact Hpl.out.symm), by omega, Lib.hid (by rw [List.drop_zero]; cases argTx T 0 [a, b', c'] <;> rfl), by rw [List.append_nil]; exact hO5, hX5, by have := Hpl.out; omega⟩
            case round =>
              obtain ⟨j, p, C, cm, cd, rfl, rfl, hcm, hj, hp1, hC, hXr, hcb⟩ := hrel
              have hcb2 : cm ≤ 6700 := by have := Hpl.out; omega
              by_cases hj3 : j < 3
              · have hjd : decide ((j : Int) < 3) = true := decide_eq_true (by omega)
                have hix := fun W => Hi0.out j W hj3
                have hdr : ([a, b', c'] : List Int).drop j = [a, b', c'].getD j 0 :: [a, b', c'].drop (j + 1) := by
                  rcases (show j = 0 ∨ j = 1 ∨ j = 2 by omega) with rfl | rfl | rfl <;> rfl
                have hvb : -9223372036854775808 ≤ ([a, b', c'] : List Int).getD j 0 ∧ ([a, b', c'] : List Int).getD j 0 ≤ 9223372036854775807 := by
                  rcases (show j = 0 ∨ j = 1 ∨ j = 2 by omega) with rfl | rfl | rfl <;> simp <;> omega
                have hst2 : argTx T 0 [a, b', c'] = ((if (j : Int) < T then (argTx T (j + 1) ([a, b', c'].drop (j + 1))).map (32 :: decL ([a, b', c'].getD j 0) ++ ·) else if [a, b', c'].getD j 0 = 0 then argTx T (j + 1) ([a, b', c'].drop (j + 1)) else none)).map (p ++ ·) := by
                  rw [hp1.out, hdr]; rfl
                generalize ([a, b', c'] : List Int).getD j 0 = v at *
                by_cases hjT : (j : Int) < T
                · have hjTd : decide ((j : Int) < T) = true := decide_eq_true hjT
                  rw [if_pos hjT] at hst2
                  have Hst2 := Lib.hid hst2
                  have hbs := hXr.size
                  clear hst2 hdr
                  go_wp2_with (at_builtin; refine wpList_append_newM _ rfl _ _ 51 rfl w.heap.size 5 i0 Tryd.underlying51 hi hz0 hz1 hz2 C cm cd _ rfl hC 32 rfl (by omega) hbs ?_; intro B6 d6 w6 hO6 hg6)
                  have hX6 : Ext w w6 := Ext.own hXr hg6 hC.ge
                  have hO6 : OwnM w6 w.heap.size 5 B6 (headL t ++ y ++ nm ++ p ++ [32]).length d6 (bcs (headL t ++ y ++ nm ++ p ++ [32])) := by
                    have e : (headL t ++ y ++ nm ++ p ++ [32]).length = cm + 1 := by rw [List.length_append, ← hcm.out]; rfl
                    rw [e, bcs_append]; exact hO6
                  have hcall := sappint_any w w6 hp hX6 B6 d6 (headL t ++ y ++ nm ++ p ++ [32]) v hvb.1 hvb.2 hO6 (by rw [List.length_append, ← hcm.out]; simp; omega)
                  have e : (headL t ++ y ++ nm ++ p ++ [32]).length = cm + 1 := by rw [List.length_append, ← hcm.out]; rfl
                  rw [e] at hcall
                  refine hcall.mono ?_
                  rintro e2 w7 ⟨B7, m7, d7, hm7, rfl, hO7, hX7⟩
                  have Hm7 := Lib.hid hm7
                  have hdl := decL_len hvb.1 hvb.2
                  clear hcall hO6 hm7 hg6 hbs e
                  go_wp2_with fail
                  go_roundw
                  case rel =>
                    refine ⟨j + 1, p ++ 32 :: decL v, B7, m7, d7, by go_num, rfl, Lib.hid (by rw [Hm7.out]; simp), hj3, Lib.hid ?_, ?_, hX7, ?_⟩
                    · rw [Hst2.out, Option.map_map]
                      congr 1
                      funext z
                      simp
                    · have e : headL t ++ y ++ nm ++ (p ++ 32 :: decL v) = headL t ++ y ++ nm ++ p ++ [32] ++ decL v := by simp
                      rw [e]; exact hO7
                    · have e1 := Hm7.out
                      rw [List.length_append, List.length_append, ← hcm.out] at e1
                      simp at e1; omega
                  case measure => simp [intOf]; omega
                · have hjTd : decide ((j : Int) < T) = false := decide_eq_false hjT
                  rw [if_neg hjT] at hst2
                  by_cases hv : v = 0
                  · subst hv
                    rw [if_pos rfl] at hst2
                    have Hst2 := Lib.hid hst2
                    clear hst2 hdr
                    go_wp2_with fail
                    go_roundw
                    case rel => exact ⟨j + 1, p, C, cm, cd, by go_num, rfl, hcm, hj3, Hst2, hC, hXr, by omega⟩
                    case measure => simp [intOf]; omega
                  · rw [if_neg hv] at hst2
                    have hz : printL t l = [] := by
                      rw [Hz.out, hy.out, Hat.out, Hop.out, hst2]; rfl
                    have Hz2 := Lib.hid hz
                    have hv1 : (v != 0) = true := by rw [bne_iff_ne]; exact hv
                    clear hst2 hdr hz
                    go_wp2_with fail
                    go_ret
                    exact ⟨by rw [Hz2.out]; rfl, hXr⟩
              · obtain rfl : j = 3 := by omega
                have hfin : argTx T 0 [a, b', c'] = some p := by
                  rw [hp1.out]
                  show (argTx T 3 []).map (p ++ ·) = _
                  rw [argTx]; simp
                have hyk : opsTx l = (opsTx (l.drop (k + 1))).map (y ++ nm ++ p ++ [10] ++ ·) := by
                  rw [hy.out, Hat.out, Hop.out, hfin]
                  cases opsTx (l.drop (k + 1)) with
                  | none => rfl
                  | some z => simp
                have Hyk := Lib.hid hyk
                have hbs := hXr.size
                have hk1 : IntKind.i64.wrap ((k : Int) + 1) = (k : Int) + 1 := by rw [IntKind.wrap_i64]; omega
                clear hfin hyk
                go_wp2_with (at_builtin; refine wpList_append_newM _ rfl _ _ 51 rfl w.heap.size 5 i0 Tryd.underlying51 hi hz0 hz1 hz2 C cm cd _ rfl hC 10 rfl (by omega) hbs ?_; intro B6 d6 w6 hO6 hg6)
                go_roundw
                case rel =>
                  refine ⟨k + 1, y ++ nm ++ p ++ [10], B6, cm + 1, d6, by go_num, rfl, Lib.hid ?_, hlt, Hyk, ?_, Ext.own hXr hg6 hC.ge, ?_⟩
                  · rw [hcm.out]; simp; omega
                  · have e : headL t ++ (y ++ nm ++ p ++ [10]) = headL t ++ y ++ nm ++ p ++ [10] := by simp
                    rw [e, bcs_append]; exact hO6
                  · have := Hpl.out; omega
                case measure => simp [intOf]; omega
        · obtain rfl : k = l.length := by omega
          have hy2 := hy.out
          rw [List.drop_length] at hy2
          have hz : printL t l = headL t ++ y := by
            rw [Hz.out, hy2]
            show headL t ++ (y ++ []) = _
            rw [List.append_nil]
          have hstr := run_string_of (P := Tryd.prog) wr 51 9 5 Tryd.underlying51 Tryd.underlying5 Tryd.underlying9 B m d (headL t ++ y) (Rb.of hO.rd rfl)
          have Hz2 := Lib.hid hz
          clear hy2 hz
          go_wp2_with fail
          go_ret
          exact ⟨by rw [Hz2.out]; rfl, hX⟩
end Go.Proofs.YtbmgiidecidojaaDoor
