/- The walk of the reference's Encode. -/
import Derived.Test.YtehelhennbcboaaCodP
import Derived.Test.YtehelhennbcboaaRegA
namespace Go.Proofs.Ytehelhennbcboaa
open Go.RowKit

theorem nums_put (pre : List UInt8) (x a b' c' : Int) : pre ++ putL x ++ putL a ++ putL b' ++ putL c' = pre ++ putAll (nums (x, a, b', c')) := by
  simp [nums, putAll]

set_option maxRecDepth 100000 in
set_option maxHeartbeats 8000000 in
theorem rencode_any (w : World) (t : List UInt8) (A : Option Addr) (n c : Nat) (l : List OpT) (ht : t.length ≤ 1099511627776) (hl : Ro w A n c l) :
    Calls Try.prog 21 #[pAgg t A n c] w (EncOf w t l) := by
  have hn := hl.len
  have hmx := hl.max
  unfold maxLen at hmx
  subst hn
  have hl1 := hl.ext (Ext.alloc w (.cells #[.string (bs t), .slice A l.length c] 24))
  have hform := form_any _ t A l.length c l ht hl1
  unfold pAgg at *
  have Hform := Lib.hid hform
  clear hform
  obtain ⟨i0, hi, hz0, hz1, hz2⟩ := info_parts info_u8
  go_enter Try.func21, Try.ntmps21
  go_wp2_with fail
  refine Calls.mono Hform.out ?_
  rintro e w1 ⟨rfl, e1⟩
  have e2 := (Ext.alloc w _).trans e1
  cases hf : formL t l
  · have Hf := Lib.hid hf
    clear hf
    go_wp2_with fail
    go_ret
    exact .inl ⟨Hf.out, rfl, e2⟩
  have c0 := e1.cell (show (w.alloc (.cells #[.string (bs t), .slice A l.length c] 24)).cell? ⟨w.heap.size, 0, none⟩ = some (.string (bs t)) by go_simp)
  have c1 := e1.cell (show (w.alloc (.cells #[.string (bs t), .slice A l.length c] 24)).cell? ⟨w.heap.size, 1, none⟩ = some (.slice A l.length c) by go_simp)
  obtain ⟨h1, h2, ht80⟩ := form_lens hf
  have hsm : ∀ o ∈ l, smallO o = true := by
    unfold formL at hf
    simp only [Bool.and_eq_true, List.all_eq_true] at hf
    exact hf.2
  have Hsm := Lib.hid hsm
  have Hf := Lib.hid hf
  have hw0 : w.heap.size < w1.heap.size := World.block_lt_of_cell? w1 _ c0
  clear hf hsm Hform
  have hb90 : (bytesL t).length ≤ 90 := by have := putL_le t.length; unfold bytesL; rw [List.length_append]; omega
  have hp10 := putL_le l.length
  go_wp2_with fail
  apply wp_region_lex_tails 7 (R := Ext) (by decide) (by kernel_rfl) (by kernel_rfl) (by kernel_rfl) Ext.refl (fun _ _ _ => Ext.trans) (Ext.drew _)
  simp only [List.take_succ_cons, List.take_zero]
  repeat
    apply lex_ex Ext.refl
    · rfl
    · intro W hR hΦ
      have d0 := hR.cell c0
      have d1 := hR.cell c1
      go_simp
      first | done | with_reducible rfl
    simp only [Act.put, List.setIfInBounds_toArray, List.set_cons_zero, List.set_cons_succ]
  apply lex_call (p := SlO w1.heap.size (bytesL t)) (SlO.stab _ _)
  · rfl
  · intro W
    go_simp
    exact ⟨rfl, rfl⟩
  · intro W hR hΦ
    refine (ptext_any t W (by omega)).mono ?_
    rintro e W' ⟨B, m, d, rfl, ho, hg, _⟩
    exact ⟨_, rfl, ext_of_grown hg, B, m, d, rfl, ho.mono hR.size⟩
  intro v
  simp only [Act.put, List.setIfInBounds_toArray, List.set_cons_zero, List.set_cons_succ]
  repeat
    apply lex_ex Ext.refl
    · rfl
    · intro W hR hΦ
      have d0 := hR.cell c0
      have d1 := hR.cell c1
      go_simp
      first | done | with_reducible rfl
    simp only [Act.put, List.setIfInBounds_toArray, List.set_cons_zero, List.set_cons_succ]
  apply lex_call (p := SlO w1.heap.size (putL l.length)) (SlO.stab _ _)
  · rfl
  · intro W
    go_simp
    exact ⟨rfl, rfl⟩
  · intro W hR hΦ
    refine (rput_any l.length W (by omega) (by omega)).mono ?_
    rintro e W' ⟨B, m, d, rfl, ho, hg, _⟩
    exact ⟨_, rfl, ext_of_grown hg, B, m, d, rfl, ho.mono hR.size⟩
  intro v2
  simp only [Act.put, List.setIfInBounds_toArray, List.set_cons_zero, List.set_cons_succ]
  refine lex_nil ?_
  intro W hR hΦ
  obtain ⟨Y, Ym, Yd, rfl, hoY⟩ := hΦ.1 rfl
  obtain ⟨B, m, d, rfl, ho⟩ := hΦ.2.1 rfl
  simp only [List.drop_succ_cons, List.drop_zero]
  clear hΦ
  have hbm : m = (bytesL t).length := by have := ho.len; rw [bcs_length] at this; omega
  have hYm : Ym = (putL l.length).length := by have := hoY.len; rw [bcs_length] at this; omega
  have Hbm := Lib.hid hbm
  have HYm := Lib.hid hYm
  have hm1 : m ≤ 90 := by omega
  have hm2 : Ym ≤ 10 := by omega
  clear hbm hYm
  go_wp2_with (at_builtin; refine wpList_append_to _ rfl _ _ 36 rfl w1.heap.size 5 i0 (.int .u8 0) 1 1 Try.underlying36 hi hz0 hz1 hz2 rfl (by decide) B m d _ rfl ho Y Ym Yd _ rfl hoY.rd (bcs_one _) (by unfold maxLen; omega) (by omega) hR.size ?_; intro B2 d2 w2 ho2 hg2 hw2)
  have e3 : Ext w1 w2 := Ext.own hR hg2 ho.blk_ge
  go_loopw [3, 4] (fun b i w' => enRel t l w1 b i w') (fun _ i _ => l.length - (intOf i).toNat)
  case atStart => exact ⟨0, B2, _, d2, rfl, Nat.zero_le _, rfl, rfl, by simpa [encP, putAll, bcs_append] using ho2, e3⟩
  case round =>
    obtain ⟨k, C, Cm, Cd, rfl, hk, rfl, ha, hoC, he⟩ := hrel
    have d1 := he.cell c1
    clear ha
    by_cases hlt : k < l.length
    · obtain ⟨b, o, rfl, g0, g1, g2, g3⟩ := (hl.ext (e2.trans he)).at_ hlt
      have Hp := Lib.hid (encP_succ t l k hlt)
      have hso := Hsm.out _ (List.getElem_mem hlt)
      generalize l[k] = op at *
      obtain ⟨x, a, b', c'⟩ := op
      dsimp only at g0 g1 g2 g3
      simp only [smallO, smallI, Bool.and_eq_true, decide_eq_true_eq] at hso
      have hpl := encP_len ht80 h2 k
      have hCm : Cm = (encP t l k).length := by have := hoC.len; rw [bcs_length] at this; omega
      have hCm2 : Cm ≤ 2660 := by omega
      clear hCm
      generalize hpre : encP t l k = pre at *
      have Hpre := Lib.hid hpre
      clear hpre
      have hsw := World.block_lt_of_cell? wr _ d1
      go_wp2_with fail
      generalize hW1 : World.alloc wr _ = W1
      obtain ⟨g5, hg5⟩ : ∃ g, wr.heap.size = g := ⟨_, rfl⟩
      have q0 : W1.cell? ⟨g5, 0, none⟩ = some (.int .i64 x) := by subst hW1 hg5; go_simp
      have q1 : W1.cell? ⟨g5, 1, none⟩ = some (.int .i64 a) := by subst hW1 hg5; go_simp
      have q2 : W1.cell? ⟨g5, 2, none⟩ = some (.int .i64 b') := by subst hW1 hg5; go_simp
      have q3 : W1.cell? ⟨g5, 3, none⟩ = some (.int .i64 c') := by subst hW1 hg5; go_simp
      have e5 : Ext wr W1 := by subst hW1; exact Ext.alloc _ _
      have e5E : Ext w1 W1 := he.trans e5
      have hoC1 := hoC.ext e5
      have hneCC : blk C ≠ some g5 := fun e => by
        obtain ⟨ad, h3, h4⟩ := Option.map_eq_some_iff.1 e
        have := (hoC.base_le ad h3).2
        omega
      have hltC : ∀ g, blk C = some g → g < W1.heap.size := fun g e => by
        obtain ⟨ad, h3, h4⟩ := Option.map_eq_some_iff.1 e
        have := (hoC1.base_le ad h3).2
        omega
      have hg5lt : g5 < W1.heap.size := World.block_lt_of_cell? W1 _ q0
      rw [hg5]
      have Hg5 := Lib.hid hg5
      clear hW1 hg5 hoC

      apply wp_region_lexG_tails (F1 := 99) (F2 := 99) 8 (R := gR C) (Rs := gRs 4 C) (J := gJ 4 w1.heap.size 5 C Cm Cd (bcs pre)) (by decide) (by kernel_rfl) (by kernel_rfl) (by kernel_rfl) (gR.refl _) (gRs.refl _ _) (gR.sz _) (gJ.stab _ _ _ _ _ _ _) (gR.trans _) (gR.drew _ _) (gJ.start hoC1)
      simp only [List.take_succ_cons, List.take_zero]
      repeat
        apply lexG_ex (by decide) (by decide) (gR.refl _) (gRs.refl _ _)
        · rfl
        · intro W hR hJ hΦ
          have o0 := hR.cell q0 hneCC
          have o1 := hR.cell q1 hneCC
          have o2 := hR.cell q2 hneCC
          have o3 := hR.cell q3 hneCC
          go_simp
          first | done | with_reducible rfl
        simp only [Act.put, List.setIfInBounds_toArray, List.set_cons_zero, List.set_cons_succ]
      apply lexG_call (p := SlP W1.heap.size 5 (bcs (putL x))) (by decide) (by decide) (SlP.stab hltC)
      · rfl
      · intro W
        go_simp
        exact ⟨rfl, rfl⟩
      · intro W hR hJ hΦ
        refine (rput_any x W (by omega) (by omega)).mono ?_
        rintro e W' ⟨B, m, d, rfl, ho, hg, _⟩
        exact ⟨_, rfl, (ext_of_grown hg).grownBy _, .inr (ext_of_grown hg), B, m, d, rfl, ho.mono hR.size⟩
      intro v1
      simp only [Act.put, List.setIfInBounds_toArray, List.set_cons_zero, List.set_cons_succ]
      apply lexG_new (p := ApP w1.heap.size 5 g5 ((bcs pre) ++ bcs (putL x))) (by decide) (by decide) (fun j hj => ApP.stab j hj)
      · rfl
      · intro W hR hJ hΦ
        obtain ⟨B, m, d, rfl, ho⟩ := hΦ.1 rfl
        have hm : m = (putL x).length := by have := ho.len; rw [bcs_length] at this; omega
        have hpx := putL_le x
        exact exec_append_ap W _ _ 36 rfl w1.heap.size 5 i0 (.int .u8 0) 1 Try.underlying36 hi hz0 hz1 hz2 rfl C Cm Cd ((bcs pre)) rfl (hJ rfl) B m d _ rfl ho.rd (bcs_one _) (by unfold maxLen; omega) (by omega) (Nat.le_trans e5E.size hR.size) hneCC (Nat.lt_of_lt_of_le hg5lt hR.size)
      intro v2
      simp only [Act.put, List.setIfInBounds_toArray, List.set_cons_zero, List.set_cons_succ]
      repeat
        apply lexG_ex (by decide) (by decide) (gR.refl _) (gRs.refl _ _)
        · rfl
        · intro W hR hJ hΦ
          have o0 := hR.cell q0 hneCC
          have o1 := hR.cell q1 hneCC
          have o2 := hR.cell q2 hneCC
          have o3 := hR.cell q3 hneCC
          go_simp
          first | done | with_reducible rfl
        simp only [Act.put, List.setIfInBounds_toArray, List.set_cons_zero, List.set_cons_succ]
      apply lexG_call (p := SlP W1.heap.size 5 (bcs (putL a))) (by decide) (by decide) (SlP.stab hltC)
      · rfl
      · intro W
        go_simp
        exact ⟨rfl, rfl⟩
      · intro W hR hJ hΦ
        refine (rput_any a W (by omega) (by omega)).mono ?_
        rintro e W' ⟨B, m, d, rfl, ho, hg, _⟩
        exact ⟨_, rfl, (ext_of_grown hg).grownBy _, .inr (ext_of_grown hg), B, m, d, rfl, ho.mono hR.size⟩
      intro v3
      simp only [Act.put, List.setIfInBounds_toArray, List.set_cons_zero, List.set_cons_succ]
      refine lexG_nil ?_
      intro WW2 hR _ hΦ
      obtain ⟨Y2, Y2m, Y2d, rfl, hoY2⟩ := hΦ.1 rfl
      obtain ⟨D2, D2m, D2d, rfl, hoD2, hnD2⟩ := hΦ.2.1 rfl
      simp only [List.drop_succ_cons, List.drop_zero]
      have hmY2 : Y2m = (putL a).length := by have := hoY2.len; rw [bcs_length] at this; omega
      have hmD2 : D2m = Cm + (putL x).length := by have := hoD2.len; have h9 := hoC1.len; simp only [List.length_append, bcs_length, Nat.mul_one] at this h9; omega
      have hpx2 := putL_le x
      have hpy2 := putL_le a
      have hmY22 : Y2m ≤ 10 := by omega
      have hmD22 : D2m ≤ Cm + 10 := by omega
      clear hmY2 hmD2
      have eW2 : Ext w1 WW2 := Ext.own e5E hR hoC1.blk_ge
      have u20 := hR.cell q0 hneCC
      have u21 := hR.cell q1 hneCC
      have u22 := hR.cell q2 hneCC
      have u23 := hR.cell q3 hneCC
      have hg2 : g5 < WW2.heap.size := Nat.lt_of_lt_of_le hg5lt hR.size
      clear hΦ
      go_wp2_with (at_builtin; refine wpList_append_to _ rfl _ _ 36 rfl w1.heap.size 5 i0 (.int .u8 0) 1 1 Try.underlying36 hi hz0 hz1 hz2 rfl (by decide) D2 D2m D2d _ rfl hoD2 Y2 Y2m Y2d _ rfl hoY2.rd (bcs_one _) (by unfold maxLen; omega) (by omega) eW2.size ?_; intro E2 E2d VV2 hoE2 hgE2 hwE2)
      have eV2 : Ext w1 VV2 := Ext.own eW2 hgE2 hoD2.blk_ge
      have hneE : blk E2 ≠ some g5 := fun e => by
        rcases hwE2 with h | h
        · exact hnD2 (h.symm.trans e)
        · rw [h] at e
          have e2 := Option.some.inj e
          omega
      have hltE : ∀ g, blk E2 = some g → g < VV2.heap.size := fun g e => by
        obtain ⟨ad, h3, h4⟩ := Option.map_eq_some_iff.1 e
        have := (hoE2.base_le ad h3).2
        omega
      have q20 := World.grownBy.cell hgE2 u20 hnD2.symm
      have q21 := World.grownBy.cell hgE2 u21 hnD2.symm
      have q22 := World.grownBy.cell hgE2 u22 hnD2.symm
      have q23 := World.grownBy.cell hgE2 u23 hnD2.symm
      have hgV2 : g5 < VV2.heap.size := Nat.lt_of_lt_of_le hg2 hgE2.size
      clear u20 u21 u22 u23 q0 q1 q2 q3 hoC1 hneCC hltC hoD2 hoY2
      apply wp_region_lexG_tails (F1 := 99) (F2 := 99) 8 (R := gR E2) (Rs := gRs 4 E2) (J := gJ 4 w1.heap.size 5 E2 (D2m + Y2m) E2d (bcs pre ++ bcs (putL x) ++ bcs (putL a))) (by decide) (by kernel_rfl) (by kernel_rfl) (by kernel_rfl) (gR.refl _) (gRs.refl _ _) (gR.sz _) (gJ.stab _ _ _ _ _ _ _) (gR.trans _) (gR.drew _ _) (gJ.start hoE2)
      simp only [List.take_succ_cons, List.take_zero]
      repeat
        apply lexG_ex (by decide) (by decide) (gR.refl _) (gRs.refl _ _)
        · rfl
        · intro W hR hJ hΦ
          have o0 := hR.cell q20 hneE
          have o1 := hR.cell q21 hneE
          have o2 := hR.cell q22 hneE
          have o3 := hR.cell q23 hneE
          go_simp
          first | done | with_reducible rfl
        simp only [Act.put, List.setIfInBounds_toArray, List.set_cons_zero, List.set_cons_succ]
      apply lexG_call (p := SlP VV2.heap.size 5 (bcs (putL b'))) (by decide) (by decide) (SlP.stab hltE)
      · rfl
      · intro W
        go_simp
        exact ⟨rfl, rfl⟩
      · intro W hR hJ hΦ
        refine (rput_any b' W (by omega) (by omega)).mono ?_
        rintro e W' ⟨B, m, d, rfl, ho, hg, _⟩
        exact ⟨_, rfl, (ext_of_grown hg).grownBy _, .inr (ext_of_grown hg), B, m, d, rfl, ho.mono hR.size⟩
      intro v1
      simp only [Act.put, List.setIfInBounds_toArray, List.set_cons_zero, List.set_cons_succ]
      apply lexG_new (p := ApP w1.heap.size 5 g5 ((bcs pre ++ bcs (putL x) ++ bcs (putL a)) ++ bcs (putL b'))) (by decide) (by decide) (fun j hj => ApP.stab j hj)
      · rfl
      · intro W hR hJ hΦ
        obtain ⟨B, m, d, rfl, ho⟩ := hΦ.1 rfl
        have hm : m = (putL b').length := by have := ho.len; rw [bcs_length] at this; omega
        have hpx := putL_le b'
        exact exec_append_ap W _ _ 36 rfl w1.heap.size 5 i0 (.int .u8 0) 1 Try.underlying36 hi hz0 hz1 hz2 rfl E2 (D2m + Y2m) E2d ((bcs pre ++ bcs (putL x) ++ bcs (putL a))) rfl (hJ rfl) B m d _ rfl ho.rd (bcs_one _) (by unfold maxLen; omega) (by omega) (Nat.le_trans eV2.size hR.size) hneE (Nat.lt_of_lt_of_le hgV2 hR.size)
      intro v2
      simp only [Act.put, List.setIfInBounds_toArray, List.set_cons_zero, List.set_cons_succ]
      repeat
        apply lexG_ex (by decide) (by decide) (gR.refl _) (gRs.refl _ _)
        · rfl
        · intro W hR hJ hΦ
          have o0 := hR.cell q20 hneE
          have o1 := hR.cell q21 hneE
          have o2 := hR.cell q22 hneE
          have o3 := hR.cell q23 hneE
          go_simp
          first | done | with_reducible rfl
        simp only [Act.put, List.setIfInBounds_toArray, List.set_cons_zero, List.set_cons_succ]
      apply lexG_call (p := SlP VV2.heap.size 5 (bcs (putL c'))) (by decide) (by decide) (SlP.stab hltE)
      · rfl
      · intro W
        go_simp
        exact ⟨rfl, rfl⟩
      · intro W hR hJ hΦ
        refine (rput_any c' W (by omega) (by omega)).mono ?_
        rintro e W' ⟨B, m, d, rfl, ho, hg, _⟩
        exact ⟨_, rfl, (ext_of_grown hg).grownBy _, .inr (ext_of_grown hg), B, m, d, rfl, ho.mono hR.size⟩
      intro v3
      simp only [Act.put, List.setIfInBounds_toArray, List.set_cons_zero, List.set_cons_succ]
      refine lexG_nil ?_
      intro WW4 hR _ hΦ
      obtain ⟨Y4, Y4m, Y4d, rfl, hoY4⟩ := hΦ.1 rfl
      obtain ⟨D4, D4m, D4d, rfl, hoD4, hnD4⟩ := hΦ.2.1 rfl
      simp only [List.drop_succ_cons, List.drop_zero]
      have hmY4 : Y4m = (putL c').length := by have := hoY4.len; rw [bcs_length] at this; omega
      have hmD4 : D4m = (D2m + Y2m) + (putL b').length := by have := hoD4.len; have h9 := hoE2.len; simp only [List.length_append, bcs_length, Nat.mul_one] at this h9; omega
      have hpx4 := putL_le b'
      have hpy4 := putL_le c'
      have hmY42 : Y4m ≤ 10 := by omega
      have hmD42 : D4m ≤ (D2m + Y2m) + 10 := by omega
      clear hmY4 hmD4
      have eW4 : Ext w1 WW4 := Ext.own eV2 hR hoE2.blk_ge
      have u40 := hR.cell q20 hneE
      have u41 := hR.cell q21 hneE
      have u42 := hR.cell q22 hneE
      have u43 := hR.cell q23 hneE
      have hg4 : g5 < WW4.heap.size := Nat.lt_of_lt_of_le hgV2 hR.size
      clear hΦ
      go_wp2_with (at_builtin; refine wpList_append_to _ rfl _ _ 36 rfl w1.heap.size 5 i0 (.int .u8 0) 1 1 Try.underlying36 hi hz0 hz1 hz2 rfl (by decide) D4 D4m D4d _ rfl hoD4 Y4 Y4m Y4d _ rfl hoY4.rd (bcs_one _) (by unfold maxLen; omega) (by omega) eW4.size ?_; intro E4 E4d VV4 hoE4 hgE4 hwE4)
      have eV4 : Ext w1 VV4 := Ext.own eW4 hgE4 hoD4.blk_ge
      clear u40 u41 u42 u43 q20 q21 q22 q23 hoE2 hneE hltE hoY4 hoD4
      go_roundw
      case rel =>
        refine ⟨k + 1, E4, _, E4d, by go_num, hlt, rfl, ?_, ?_, eV4⟩
        · have hall : l.all smallO = true := by rw [List.all_eq_true]; exact Hsm.out
          have hall2 : (l.drop (k + 1)).all smallO = true := by rw [List.all_eq_true]; exact fun o ho => Hsm.out o (List.mem_of_mem_drop ho)
          rw [hall, hall2]
        · rw [Hp.out, ← nums_put]
          simpa [bcs_append] using hoE4
      case measure => simp [intOf]; omega
    · obtain rfl : k = l.length := by omega
      have hne : encP t l l.length = encB t l := by unfold encP encB; rw [List.take_length]
      obtain ⟨g, hg⟩ : ∃ g, C = some ⟨g, 0, none⟩ := by
        rcases hoC.2 with ⟨hv, _⟩ | ⟨g, cap, cur, hv, _⟩
        · injection hv with _ h5 _
          have := hoC.len
          rw [bcs_length] at this
          have h6 := putL_pos t.length
          have h7 : 0 < (encP t l l.length).length := by unfold encP bytesL; simp only [List.length_append]; omega
          omega
        · injection hv with h5
          exact ⟨g, h5⟩
      subst hg
      rw [hne] at hoC
      clear hne
      go_wp2_with fail
      go_ret
      exact .inr ⟨Hf.out, g, Cm, Cd, rfl, hoC.mono e2.size, e2.trans he⟩
end Go.Proofs.Ytehelhennbcboaa
