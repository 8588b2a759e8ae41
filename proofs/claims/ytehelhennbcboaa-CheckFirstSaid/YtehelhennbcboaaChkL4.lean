/- The walk of the law CheckMore. -/
import Derived.Test.YtehelhennbcboaaChkL3
namespace Go.Proofs.Ytehelhennbcboaa
open Go.RowKit

theorem may_mono {o : OpT} {m m' : Nat} (h : m ≤ m') (ho : mayL o m = true) : mayL o m' = true := by
  obtain ⟨x, a, b, c⟩ := o
  have ht : ∀ v, toI m v = true → toI m' v = true := fun v hv => by simp only [toI, Bool.and_eq_true, decide_eq_true_eq] at hv ⊢; omega
  unfold mayL at ho ⊢
  dsimp only at ho ⊢
  by_cases h0 : x = 0
  · rw [if_pos h0] at ho ⊢; exact ho
  rw [if_neg h0] at ho ⊢
  by_cases h1 : x = 1
  · rw [if_pos h1] at ho ⊢; exact ho
  rw [if_neg h1] at ho ⊢
  by_cases h9 : x = 9
  · rw [if_pos h9] at ho ⊢
    simp only [Bool.and_eq_true] at ho ⊢
    exact ⟨⟨ht _ ho.1.1, ho.1.2⟩, ho.2⟩
  rw [if_neg h9] at ho ⊢
  by_cases h10 : x = 10
  · rw [if_pos h10] at ho ⊢
    simp only [Bool.and_eq_true] at ho ⊢
    exact ⟨⟨ho.1.1, ht _ ho.1.2⟩, ho.2⟩
  rw [if_neg h10] at ho ⊢
  exact ho
theorem bad_none {m : Nat} : ∀ {l : List OpT} {k : Nat}, badGo m k l = -1 ↔ ∀ o ∈ l, mayL o m = true
  | [], k => by simp [badGo]
  | o :: l, k => by
    rw [badGo_cons]
    by_cases h : mayL o m = true
    · rw [if_pos h, bad_none]
      refine ⟨fun h' x hx => ?_, fun h' x hx => h' x (List.mem_cons_of_mem _ hx)⟩
      rcases List.mem_cons.1 hx with hx | hx
      · subst hx; exact h
      · exact h' x hx
    · rw [if_neg h]
      exact ⟨(fun h' => by omega), fun h' => absurd (h' o (List.mem_cons_self ..)) h⟩
theorem fault_none {t : List UInt8} {l : List OpT} : faultL t l = -1 ↔ formL t l = true ∧ ∀ o ∈ l, mayL o l.length = true := by
  unfold faultL
  cases h : formL t l
  · simp
  · simp [bad_none]
/-- A program with jumps behind it. -/
def moreL (l : List OpT) (k : Nat) : List OpT := l ++ List.replicate k ((9 : Int), ((l.length : Nat) : Int), (0 : Int), (0 : Int))
theorem moreL_succ (l : List OpT) (k : Nat) : moreL l (k + 1) = moreL l k ++ [((9 : Int), ((l.length : Nat) : Int), (0 : Int), (0 : Int))] := by
  unfold moreL; rw [List.replicate_succ', List.append_assoc]
theorem more_may {t : List UInt8} {l : List OpT} {k : Nat} (h : faultL t l = -1) (hl : l.length ≤ 40) (hk : k ≤ 20) : faultL t (moreL l k) = -1 := by
  rw [fault_none] at h ⊢
  have hlen : (moreL l k).length = l.length + k := by simp [moreL]
  have hj : ∀ o ∈ moreL l k, o ∈ l ∨ o = ((9 : Int), ((l.length : Nat) : Int), (0 : Int), (0 : Int)) := fun o ho => by
    unfold moreL at ho
    rcases List.mem_append.1 ho with ho | ho
    · exact .inl ho
    · exact .inr (List.eq_of_mem_replicate ho)
  obtain ⟨hf, hm⟩ := h
  unfold formL at hf ⊢
  simp only [Bool.and_eq_true, decide_eq_true_eq, List.all_eq_true] at hf ⊢
  refine ⟨⟨⟨⟨hf.1.1.1, by omega⟩, by omega⟩, fun o ho => ?_⟩, fun o ho => ?_⟩
  · rcases hj o ho with ho | rfl
    · exact hf.2 o ho
    · simp [smallO, smallI]; omega
  · rcases hj o ho with ho | rfl
    · exact may_mono (by omega) (hm o ho)
    · rw [may_9]; simp [toI]; omega

set_option maxRecDepth 100000 in
set_option maxHeartbeats 4000000 in
theorem more_walk (w : World) (t : List UInt8) (A : Option Addr) (n c : Nat) (l : List OpT) (ht : t.length ≤ maxLen) (hl : Ro w A n c l) (_hok : ∀ o ∈ l, okO o) (x : Int) (_x0 : -9223372036854775808 ≤ x) (_x1 : x ≤ 9223372036854775807) :
    Calls Try.prog 5 #[pAgg t A n c, .int .i64 x] w (Yes w) := by
  clear _x0 _x1
  have hcut := fun W => pcut_any W t A n c 40 ht hl.max
  have hl' := hl.min_ 40
  have hl40 : (l.take 40).length ≤ 40 := by rw [List.length_take]; omega
  have htl : (t.take 40).length ≤ 1099511627776 := by rw [List.length_take]; omega
  have hn40 : min n 40 ≤ 40 := Nat.min_le_right _ _
  obtain ⟨i0, hi, hz0, hz1, hz2⟩ := info_parts info_op
  unfold pAgg at hcut ⊢
  have Hcut := Lib.hid hcut
  clear hcut
  generalize t.take 40 = t' at *
  generalize l.take 40 = l' at *
  generalize min n 40 = n' at *
  obtain rfl : n' = l'.length := hl'.len
  obtain ⟨b, hb⟩ : ∃ b, (faultL t' l' == -1) = b := ⟨_, rfl⟩
  have hm := fun W h => may_is W t' A l'.length c l' htl h hb
  have hmm : ∀ k, b = true → k ≤ 20 → (faultL t' (moreL l' k) == -1) = true := fun k h hk => by
    rw [h, beq_iff_eq] at hb
    rw [beq_iff_eq]; exact more_may hb hl40 hk
  unfold pAgg at hm
  have Hm := Lib.hid hm
  have Hmm := Lib.hid hmm
  have Hb := Lib.hid hb
  clear hm hmm hb
  go_enter Try.func5, Try.ntmps5
  go_wp2_with fail
  refine (begun7_any _).mono ?_
  rintro e w1 ⟨rfl, e1⟩
  have pb := (PBox.new w 24 t A n c rfl).ext e1
  have x1 := (Ext.alloc w _).trans e1
  clear e1
  obtain ⟨p0, p1, p2, p3⟩ := id pb
  go_wp2_with fail
  refine (Hcut.out _).mono ?_
  rintro e w2 ⟨rfl, e2⟩
  have pb2 := pb.ext e2
  have x2 := x1.trans e2
  clear e2 p0 p1 p2 p3 pb x1
  obtain ⟨p0, p1, p2, p3⟩ := id pb2
  go_wp2_with fail
  generalize hW0 : World.setCell (World.setCell w2 _ _) _ _ = W0
  have x0 : Ext w W0 := by subst hW0; exact (x2.setCell (Nat.le_refl _) _).setCell (Nat.le_refl _) _
  have pb0 : PBox W0 w.heap.size t' A l'.length c := by subst hW0; exact (pb2.setT t').set_ A l'.length c
  clear hW0 p0 p1 p2 p3 pb2 x2
  refine (Hm.out _ (hl'.ext x0)).mono ?_
  rintro e w3 ⟨rfl, e3⟩
  have pb3 := pb0.ext e3
  have x3 := x0.trans e3
  have hl3 := hl'.ext x3
  clear pb0 x0 e3
  obtain ⟨p0, p1, p2, p3⟩ := id pb3
  cases b
  · go_wp2_with fail
    go_ret
    exact ⟨rfl, x3⟩
  by_cases hx : x < 0
  · go_wp2_with fail
    go_ret
    exact ⟨rfl, x3⟩
  by_cases hx2 : 20 < x
  · go_wp2_with fail
    go_ret
    exact ⟨rfl, x3⟩
  obtain ⟨N, rfl⟩ := Int.eq_ofNat_of_zero_le (show 0 ≤ x by omega)
  go_wp2_with fail
  apply wp_region_lex_tails 7 (R := Ext) (by decide) (by kernel_rfl) (by kernel_rfl) (by kernel_rfl) Ext.refl (fun _ _ _ => Ext.trans) (Ext.drew _)
  simp only [List.take_succ_cons, List.take_zero]
  repeat
    apply lex_ex Ext.refl
    · rfl
    · intro W hR hΦ
      obtain ⟨q0, q1, q2, q3⟩ := pb3.ext hR
      go_simp
      first | done | with_reducible rfl
    simp only [Act.put, List.setIfInBounds_toArray, List.set_cons_zero, List.set_cons_succ]
  apply lex_new (p := fun u W => ∃ B d, u = .slice B l'.length d ∧ Own W w3.heap.size 30 4 B l'.length d (opcs l')) (fun _ _ _ ⟨B, d, hv, h⟩ he => ⟨B, d, hv, h.ext he⟩)
  · rfl
  · intro W hR hΦ
    exact exec_append_nil W _ _ 22 rfl w3.heap.size 30 i0 (.agg #[.int .i64 0, .int .i64 0, .int .i64 0, .int .i64 0]) 4 32 Try.underlying22 hi hz0 hz1 hz2 rfl (by decide) rfl A l'.length c (opcs l') rfl (hl3.ext hR) (opcs_one _) (by unfold maxLen; omega) (by omega) hR.size
  intro v
  simp only [Act.put, List.setIfInBounds_toArray, List.set_cons_zero, List.set_cons_succ]
  apply lex_rel (p := fun u W => ∃ B d, u = .agg #[.string (bs t'), .slice B l'.length d] ∧ Own W w3.heap.size 30 4 B l'.length d (opcs l')) Ext.refl (fun _ _ _ ⟨B, d, hv, h⟩ he => ⟨B, d, hv, h.ext he⟩)
  · rfl
  · intro W hR hΦ
    obtain ⟨B, d, rfl, ho⟩ := hΦ.1 rfl
    refine ⟨.agg #[.string (bs t'), .slice B l'.length d], ?_, B, d, rfl, ho⟩
    go_simp
    first | done | with_reducible rfl
  intro v3
  simp only [Act.put, List.setIfInBounds_toArray, List.set_cons_zero, List.set_cons_succ]
  apply lex_new (p := fun u W => ∃ g, u = .pointer (some ⟨g, 0, none⟩) ∧ w3.heap.size ≤ g ∧ W.heap[g]? = some (.cells #[.string ByteArray.empty, .slice none 0 0] 24 (0, 0))) (fun _ _ _ ⟨g, hv, hg, h⟩ he => ⟨g, hv, hg, (he.block g (Array.getElem?_eq_some_iff.1 h).1).trans h⟩)
  · rfl
  · intro W hR hΦ
    refine ⟨.pointer (some ⟨W.heap.size, 0, none⟩), W.alloc (.cells #[.string ByteArray.empty, .slice none 0 0] 24), ?_, Ext.alloc _ _, W.heap.size, rfl, hR.size, heap_alloc_new W _⟩
    go_simp
    first | done | rfl
  intro v2
  simp only [Act.put, List.setIfInBounds_toArray, List.set_cons_zero, List.set_cons_succ]
  refine lex_nil ?_
  intro W hR hΦ
  obtain ⟨g, rfl, hg3, hblk⟩ := hΦ.1 rfl
  obtain ⟨B, d, rfl, ho⟩ := hΦ.2.1 rfl
  simp only [List.drop_succ_cons, List.drop_zero]
  clear hΦ
  have pb4 := pb3.ext hR
  have x4 := x3.trans hR
  clear p0 p1 p2 p3
  obtain ⟨p0, p1, p2, p3⟩ := id pb4
  have g0 : W.cell? ⟨g, 0, none⟩ = some (.string (bs [])) := by rw [cell_of_row _ _ _ _ _ _ hblk]; rfl
  have g1 : W.cell? ⟨g, 1, none⟩ = some (.slice none 0 0) := by rw [cell_of_row _ _ _ _ _ _ hblk]; rfl
  have g2 : W.frozen? ⟨g, 0, none⟩ = false := by simp [World.frozen?, hblk]
  have g3 : W.frozen? ⟨g, 1, none⟩ = false := by simp [World.frozen?, hblk]
  have hgB : blk B ≠ some g := by
    rcases ho.2 with ⟨hv, _⟩ | ⟨k, cap, cur, hv, hbk, hh, _⟩
    · injection hv with h1 _ _; rw [h1]; simp [blk]
    · injection hv with h1 _ _
      rw [h1]
      simp only [blk, Option.map_some]
      intro e
      have e2 : k = g := Option.some.inj e
      rw [e2, hblk] at hh
      injection hh with hh
      injection hh with _ hh _
      exact absurd hh (by decide)
  have hgr : Grow ((W.setCell ⟨g, 0, none⟩ (.string (bs t'))).setCell ⟨g, 1, none⟩ (.slice B l'.length d)) w3.heap.size g t' B l'.length d (moreL l' 0) := by
    have hpb : PBox W g [] none 0 0 := ⟨g0, g1, g2, g3⟩
    refine ⟨(hpb.setT t').set_ B l'.length d, ?_, hgB, hg3⟩
    have := (ho.kept (grownSet W ⟨g, 0, none⟩ rfl (.string (bs t'))) (.inr hgB)).kept (grownSet _ ⟨g, 1, none⟩ rfl (.slice B l'.length d)) (.inr hgB)
    simpa [moreL] using this
  have pb5 : PBox ((W.setCell ⟨g, 0, none⟩ (.string (bs t'))).setCell ⟨g, 1, none⟩ (.slice B l'.length d)) w.heap.size t' A l'.length c := by
    have hne : some g ≠ some w.heap.size := by have := pb3.lt; intro e; injection e; omega
    exact (pb4.grown (grownSet W ⟨g, 0, none⟩ rfl (.string (bs t'))) hne).grown (grownSet _ ⟨g, 1, none⟩ rfl (.slice B l'.length d)) hne
  have x5 : Ext w3 ((W.setCell ⟨g, 0, none⟩ (.string (bs t'))).setCell ⟨g, 1, none⟩ (.slice B l'.length d)) := (hR.setCell hg3 _).setCell hg3 _
  have hw3 := pb3.lt
  go_wp2_with fail
  clear g0 g1 g2 g3 hblk ho hgB pb4 p0 p1 p2 p3 pb3 hR
  go_loopw [7] (fun i w' => ∃ (k : Nat) (B : Option Addr) (d : Nat), i = .int .i64 (k : Nat) ∧ k ≤ N ∧ Grow w' w3.heap.size g t' B (l'.length + k) d (moreL l' k) ∧ PBox w' w.heap.size t' A l'.length c ∧ Ext w3 w') (fun i _ => N - (intOf i).toNat)
  case atStart => exact ⟨0, B, d, rfl, Nat.zero_le _, hgr, pb5, x5⟩
  case round =>
    obtain ⟨k, C, m, rfl, hk, hg, hpb, he⟩ := hrel
    obtain ⟨p0, p1, p2, p3⟩ := id hg.1
    obtain ⟨q0, q1, q2, q3⟩ := id hpb
    have hwg := hpb.lt
    by_cases hlt : k < N
    · have hCw : blk C ≠ some w.heap.size := fun e => by have h1 := hg.2.1.blk_ge _ e; omega
      go_wp2_with (at_builtin; refine wpList_append_new _ rfl _ _ 22 rfl w3.heap.size 30 i0 (.agg #[.int .i64 0, .int .i64 0, .int .i64 0, .int .i64 0]) 4 32 Try.underlying22 hi hz0 hz1 hz2 rfl (by decide) C (l'.length + k) m _ rfl hg.2.1 1 (ocs (9, (l'.length : Nat), 0, 0)) rfl rfl (by simp [ocs, Value.oneCell']) (by unfold maxLen; omega) (by omega) hg.lt ?_; intro B' d' w' ho' hg' hw'; obtain ⟨r0, r1, r2, r3⟩ := hg.mid hg')
      go_roundw
      case rel => exact ⟨k + 1, B', d', by go_num, hlt, by rw [moreL_succ]; exact hg.push hg' ho' hw', (hpb.grown hg' hCw).grown (grownSet (g := g) w' ⟨g, 1, none⟩ rfl _) (by intro e; have e2 := Option.some.inj e; omega), hg.out (Nat.le_refl _) he hg' _⟩
      case measure => simp [intOf]; omega
    · obtain rfl : k = N := by omega
      have hmay := Lib.hid (fun W h => may_is W t' C (l'.length + k) m (moreL l' k) htl h (Hmm.out k trivial (by omega)))
      unfold pAgg at hmay
      go_wp2_with fail
      refine (hmay.out _ hg.ro).mono ?_
      rintro e w4 ⟨rfl, e4⟩
      go_wp2_with fail
      go_ret
      exact ⟨rfl, (x3.trans he).trans e4⟩
end Go.Proofs.Ytehelhennbcboaa
