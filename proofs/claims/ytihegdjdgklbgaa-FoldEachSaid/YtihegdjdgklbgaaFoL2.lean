/- The walk of the law FoldEach. -/
import Derived.Test.YtihegdjdgklbgaaFoB
namespace Go.Proofs.Ytihegdjdgklbgaa
set_option maxRecDepth 100000
open Go.RowKit
set_option linter.unusedVariables false

def feRel (w : World) (Q : List (List UInt8)) (gp : Nat) (t : List UInt8) (A : Option Addr) (n c : Nat) (B E : Option Addr) (cp d : Nat) (es : List (List Int)) (iv : Value) (wr : World) : Prop :=
  ∃ k : Nat, iv = .int .i64 (k : Nat) ∧ k ≤ Q.length ∧ wr.cell? ⟨gp, 0, none⟩ = some (.string (bs t)) ∧ wr.cell? ⟨gp, 1, none⟩ = some (.slice A n c) ∧ Rp wr B Q.length cp Q ∧ Rg wr E (Q.length + 1) d es ∧ Ext w wr
theorem wpList_load_gatW {P : Program} {w : World} {b k : Nat} {g : List Int} {ops : Array Oper} {rest : List Oper} {o : Oper} {a : Act} {Q : Exit → Act → World → Prop} (hw : Region.wanted o (yielded ops a.tmps) = true) (ty : TypeId) (x : Operand) (ho : o.op = .load ty x)
    (hx : a.eval x = .pointer (some ⟨b, k, none⟩)) {e : TypeId} (hu : P.underlying ty = some (.array 32 e)) (hi : (P.info? ty).map (·.size) = some 32) (h : Gat w b k g)
    (hk : wpList P ops Q rest (a.put o.dst (.agg (gcs g))) w) : wpList P ops Q (o :: rest) a w := by
  refine wpList_step fun K hK => ?_
  simp only [hw, if_true]
  unfold Oper.wp execOp
  simp only [ho, hx, Instr.loadAt, Instr.sureAddr, Sem.run_bind, Sem.run_pure, Result.andThen_ok, gat_load hu hi h]
  exact hK _ _ hk
/-- What each operation of a round does to memory, where the sth stores a game into what the ath made. -/
def rgRs (T : TypeId) (s a : Nat) (i : Nat) (σ : Nat → Value) (w w' : World) : Prop := w.grownBy w' (if i = s then blkOf (σ a) else none) ∧ ∀ b gg, Blk w b T gg → ∃ gg', Blk w' b T gg'
theorem rgRs.ext {T : TypeId} {s a i : Nat} {σ : Nat → Value} {w w' : World} (e : Ext w w') : rgRs T s a i σ w w' := ⟨e.grownBy _, fun b gg h => ⟨gg, h.ext e⟩⟩
theorem rgRs.store {T : TypeId} {s a : Nat} {σ : Nat → Value} {w : World} {g0 : Nat} {g g' : List Int} (hσ : σ a = .pointer (some ⟨g0, 0, none⟩)) (h : Blk w g0 T g) (hg : g'.length = 32) : rgRs T s a s σ w (w.setRow g0 (gcs g')) := by
  refine ⟨?_, fun b gg hb => ?_⟩
  · rw [if_pos rfl, hσ]
    exact ⟨rfl, rfl, rfl, by simp, fun k _ hk => Go.setRow_other w g0 k _ (fun e => hk (by rw [e]; rfl))⟩
  · by_cases e : g0 = b
    · subst e; exact ⟨g', h.setRow hg⟩
    · exact ⟨gg, hb.setRow_other e⟩
def rgA (T : TypeId) (a m : Nat) (σ : Nat → Value) (w : World) : Prop := ∃ g0, σ a = .pointer (some ⟨g0, 0, none⟩) ∧ m ≤ g0 ∧ ∃ gg, Blk w g0 T gg
def rgS (T : TypeId) (a : Nat) (g : List Int) (σ : Nat → Value) (w : World) : Prop := ∃ g0, σ a = .pointer (some ⟨g0, 0, none⟩) ∧ Blk w g0 T g
theorem rgKeepsA {T : TypeId} {s a m : Nat} {l : List Oper} : Keeps (rgRs T s a) 99 99 l a (rgA T a m) := by
  refine ⟨fun j σ v w hj _ h => ?_, fun j hj _ σ w w' _ h hr => ?_⟩
  · unfold rgA; rw [upd_ne (fun e => hj e.symm)]; exact h
  · obtain ⟨g0, h1, h2, gg, h3⟩ := h
    obtain ⟨gg', h4⟩ := hr.2 g0 gg h3
    exact ⟨g0, h1, h2, gg', h4⟩
theorem rgKeepsS {T : TypeId} {s a : Nat} {g : List Int} {l : List Oper} (hb : bef l s a = true) : Keeps (rgRs T s a) 99 99 l s (rgS T a g) := by
  refine ⟨fun j σ v w hj hj2 h => ?_, fun j hj _ σ w w' _ h hr => ?_⟩
  · unfold rgS
    rw [upd_ne (fun e => by subst e; rw [hb] at hj2; cases hj2)]; exact h
  · obtain ⟨g0, h1, h2⟩ := h
    have h3 := hr.1
    rw [if_neg hj] at h3
    exact ⟨g0, h1, h2.grown h3 (by simp)⟩
theorem neq_game (w : World) {G : List Int} (h : G.length = 32) : (Op.equalIn 10000 33 (.agg (gcs G)) (.agg (gcs G))).run Try.prog w = .ok true w := eq_game w h
set_option maxHeartbeats 4000000 in
theorem each_walk (w : World) (t : List UInt8) (A : Option Addr) (n c : Nat) (l : List OpT) (ht : t.length ≤ maxLen) (hl : Ro w A n c l) (_hok : ∀ o ∈ l, okO o)
    (PA : Option Addr) (pn pc : Nat) (ps : List (List UInt8)) (hp : Rp w PA pn pc ps) :
    Calls Try.prog 5 #[pAgg t A n c, .slice PA pn pc] w (Yes w) := by
  have hcut := fun W => pcut_any W t A n c 64 ht hl.max
  have hl' := hl.min_ 64
  have htl : (t.take 40).length ≤ 1099511627776 := by rw [List.length_take]; omega
  have hpr := fun W e => presses_any w W e PA pn pc ps 12 hp (by decide)
  obtain ⟨Q, hQ⟩ : ∃ Q, (ps.take 12).map (·.take 9) = Q := ⟨_, rfl⟩
  have hQl : Q.length ≤ 12 := by subst hQ; simp; omega
  unfold PressesOf at hpr
  rw [hQ] at hpr
  unfold pAgg at hcut ⊢
  have Hcut := Lib.hid hcut
  have Hpr := Lib.hid hpr
  clear hcut hpr hl hQ _hok
  generalize t.take 40 = t' at *
  generalize l.take 64 = l' at *
  generalize min n 64 = n' at *
  go_enter Try.func5, Try.ntmps5
  go_wp2_with fail
  refine (begun20_any _).mono ?_
  rintro e w1 ⟨rfl, e1⟩
  have c0 := e1.cell (show (w.alloc (.cells #[.string (bs t), .slice A n c] 24)).cell? ⟨w.heap.size, 0, none⟩ = some (.string (bs t)) by go_simp)
  have c1 := e1.cell (show (w.alloc (.cells #[.string (bs t), .slice A n c] 24)).cell? ⟨w.heap.size, 1, none⟩ = some (.slice A n c) by go_simp)
  have f0 : w1.frozen? ⟨w.heap.size, 0, none⟩ = false := by rw [e1.frozen (by simp)]; go_simp
  have f1 : w1.frozen? ⟨w.heap.size, 1, none⟩ = false := by rw [e1.frozen (by simp)]; go_simp
  have x1 := (Ext.alloc w _).trans e1
  have s1 : w.heap.size < w1.heap.size := World.block_lt_of_cell? w1 _ c0
  clear e1
  go_wp2_with fail
  refine (Hcut.out _).mono ?_
  rintro e w2 ⟨rfl, e2⟩
  have c0 := e2.cell c0
  have c1 := e2.cell c1
  have f0 : w2.frozen? ⟨w.heap.size, 0, none⟩ = false := by rw [e2.frozen s1]; exact f0
  have f1 : w2.frozen? ⟨w.heap.size, 1, none⟩ = false := by rw [e2.frozen s1]; exact f1
  have x2 := x1.trans e2
  have s2 : w.heap.size < w2.heap.size := World.block_lt_of_cell? w2 _ c0
  clear e2 s1 x1
  go_wp2_with fail
  refine (Hpr.out _ x2).mono ?_
  rintro e w3 ⟨B, m0, cp0, rfl, q0, e3⟩
  have c0 := e3.cell c0
  have c1 := e3.cell c1
  have f0 : w3.frozen? ⟨w.heap.size, 0, none⟩ = false := by rw [e3.frozen s2]; exact f0
  have f1 : w3.frozen? ⟨w.heap.size, 1, none⟩ = false := by rw [e3.frozen s2]; exact f1
  have x3 := x2.trans e3
  have s3 : w.heap.size < w3.heap.size := World.block_lt_of_cell? w3 _ c0
  have hm := q0.rp.len
  have hmx := q0.rp.max
  unfold maxLen at hmx
  subst hm
  go_wp2_with fail
  generalize hW0 : World.setCell (World.setCell w3 _ _) _ _ = W0
  have x0 : Ext w W0 := by subst hW0; exact (x3.setCell (Nat.le_refl _) _).setCell (Nat.le_refl _) _
  have d0 : W0.cell? ⟨w.heap.size, 0, none⟩ = some (.string (bs t')) := by subst hW0; go_simp
  have d1 : W0.cell? ⟨w.heap.size, 1, none⟩ = some (.slice A n' c) := by subst hW0; go_simp
  have r0 : Rp W0 B Q.length cp0 Q := by subst hW0; exact ((q0.keep (grown_setG _ _ _ _) (Nat.le_refl _) s2).keep (grown_setG _ _ _ _) (Nat.le_refl _) s2).rp
  clear hW0 c0 c1 f0 f1 x2 x3 s3 e3 Hcut Hpr q0
  have hea := each_any W0 t' A n' c l' B Q.length cp0 Q htl (hl'.ext x0) r0 (by omega)
  unfold EachOf pAgg at hea
  have Hea := Lib.hid hea
  clear hea
  refine Calls.mono Hea.out ?_
  rintro e w4 ⟨E, d, rfl, hrg, e4⟩
  have d0 := e4.cell d0
  have d1 := e4.cell d1
  have r4 := r0.ext e4
  have x4 := x0.trans e4
  clear e4 x0 r0 Hea
  have hel := eachK_len t' l' Q Q.length
  obtain ⟨gb, go, rfl, ga0⟩ := hrg.at_ (k := 0) (by omega)
  rw [eachK_at] at ga0
  change Gat w4 gb (go + 0 * 32) zeroG at ga0
  have ga0' : Gat w4 gb go zeroG := by simpa using ga0
  have heq : ∀ W : World, (Op.equalIn 10000 33 (.agg (gcs zeroG)) (.agg zero32)).run Try.prog W = .ok true W := fun W => eq_game W zeroG_ok.1
  have hgu := guard_game
  clear ga0
  go_wp2_with (first
    | ((with_reducible refine wpList_load_gatW ?hw 31 (.tmp 28) rfl rfl Try.underlying31 size_state ga0' ?_); case hw => rfl))
  clear heq ga0'
  have hes : (eachK t' l' Q Q.length).length = Q.length + 1 := hel
  have hgl2 : ∀ (k : Nat) (h : k < (eachK t' l' Q Q.length).length), (eachK t' l' Q Q.length)[k] = foldN t' l' 0 zeroG (Q.take k) := fun k h => eachK_at t' l' Q h
  generalize eachK t' l' Q Q.length = es at *
  have Hgl2 := Lib.hid hgl2
  have Hes := Lib.hid hes
  clear hgl2 hes hel
  go_loopw [7] (fun iv wr => feRel w Q w.heap.size t' A n' c B (some ⟨gb, go, none⟩) cp0 d es iv wr) (fun iv _ => Q.length - (intOf iv).toNat)
  case atStart => exact ⟨0, rfl, by omega, d0, d1, r4, hrg, x4⟩
  case round =>
    obtain ⟨k, rfl, hk, d0, d1, rk, gk, xk⟩ := hrel
    by_cases hlt : k < Q.length
    · have hd : decide (k < Q.length) = true := decide_eq_true hlt
      obtain ⟨pb, po, Ai, ni, ci, rfl, hc, hr⟩ := rk.at_ hlt
      obtain ⟨b1, o1, hb1, ga1⟩ := gk.at_ (k := k) (by rw [Hes.out]; omega)
      cases hb1
      obtain ⟨b2, o2, hb2, ga2⟩ := gk.at_ (k := k + 1) (by rw [Hes.out]; omega)
      cases hb2
      rw [Hgl2.out] at ga1 ga2
      have hgo := foldN_ok t' l' (Q.take k) 0 zeroG_ok
      have hsn := foldN_snoc t' l' 0 zeroG hlt
      rw [show (0 : Int) + k = k by omega] at hsn
      have hst := fun W h1 h2 => rstep_any W t' A n' c l' k Ai ni ci (Q[k]'hlt) (foldN t' l' 0 zeroG (Q.take k)) htl h1 h2 hgo hsn.symm rfl
      unfold pAgg at hst
      have Hst := Lib.hid hst
      have Hg2 := Lib.hid (foldN_ok t' l' (Q.take (k + 1)) 0 zeroG_ok).1
      have Hl := Lib.hid (hl'.ext xk)
      have Hr := Lib.hid hr
      clear hst hsn hgo hr
      generalize foldN t' l' 0 zeroG (Q.take (k + 1)) = G2 at *
      generalize (stepN t' Q[k] k l' (foldN t' l' 0 zeroG (Q.take k))).2 = N at *
      generalize foldN t' l' 0 zeroG (Q.take k) = G1 at *
      have hix : (0 : Int) ≤ (k : Int) ∧ (k : Int) < (Q.length : Int) := by omega
      have hix2 : (0 : Int) ≤ (k : Int) ∧ (k : Int) < ((Q.length + 1 : Nat) : Int) := by omega
      have hix3 : (0 : Int) ≤ (k : Int) + 1 ∧ (k : Int) + 1 < ((Q.length + 1 : Nat) : Int) := by omega
      have hix4 : (0 : Int) ≤ (k : Int) ∧ (k : Int) < (Q.length : Int) + 1 := by omega
      have hix5 : k < Q.length + 1 := by omega
      have hix6 : (k : Int) < (Q.length : Int) + 1 := by omega
      have hsum : IntKind.i64.wrap ((k : Int) + 1) = (k : Int) + 1 := by rw [IntKind.wrap_i64]; omega
      have htn : ((k : Int) + 1).toNat = k + 1 := by omega
      go_wp2_with fail
      apply wp_region_lexS (F1 := 99) (F2 := 99) (R := Below wr.heap.size) (Rs := rgRs 33 15 14) (J := fun _ _ => True) (by kernel_rfl) (by kernel_rfl) (Below.refl _) (fun _ _ W => rgRs.ext (Ext.refl W)) (fun _ _ => Below.size) (fun _ _ _ _ _ _ _ _ _ => trivial) (fun _ _ _ => Below.trans) (Ext.drew _) (fun _ => trivial)
      intro σ
      repeat
        apply lexS_ex (by decide) (by decide) (Below.refl _) (fun _ _ W => rgRs.ext (Ext.refl W))
        · rfl
        · intro W' hR hJ hΦ
          have hR2 : Ext wr W' := hR
          have d2 := hR2.cell d0
          have d3 := hR2.cell d1
          have d4 := hR2.cell hc
          first
            | exact exec_load_gat 31 _ rfl rfl Try.underlying31 size_state (ga1.ext hR2)
            | (go_simp; first | done | with_reducible rfl)
        simp only [Act.put, List.setIfInBounds_toArray, List.set_cons_zero, List.set_cons_succ]
      apply lexS_callx (u := .tuple #[.agg (gcs G2), .int .i64 (N : Nat)]) (by decide) (by decide)
      · rfl
      · intro W'
        go_simp
        exact ⟨rfl, rfl⟩
      · intro W' hR hJ hΦ
        have hR2 : Ext wr W' := hR
        refine (Hst.out _ (Hl.out.ext hR2) (Hr.out.ext hR2)).mono ?_
        rintro e w' ⟨rfl, h9⟩
        exact ⟨rfl, Below.mono h9 hR.size, rgRs.ext h9⟩
      simp only [Act.put, List.setIfInBounds_toArray, List.set_cons_zero, List.set_cons_succ]
      repeat
        apply lexS_ex (by decide) (by decide) (Below.refl _) (fun _ _ W => rgRs.ext (Ext.refl W))
        · rfl
        · intro W' hR hJ hΦ
          go_simp
          first | done | with_reducible rfl
        simp only [Act.put, List.setIfInBounds_toArray, List.set_cons_zero, List.set_cons_succ]
      apply lexS_new (by decide) (by decide) (rgKeepsA (T := 33) (m := wr.heap.size))
      · rfl
      · intro W hR hJ hΦ
        refine ⟨.pointer (some ⟨W.heap.size, 0, none⟩), W.alloc (.cells zero32 33), ?_, Below.mono (Ext.alloc _ _) hR.size, rgRs.ext (Ext.alloc _ _), W.heap.size, upd_eq, hR.size, zeroG, Blk.zero _ _ rfl⟩
        go_simp
        first | done | rfl
      simp only [Act.put, List.setIfInBounds_toArray, List.set_cons_zero, List.set_cons_succ]
      apply lexS_store (by decide) (by decide) (rgKeepsS (T := 33) (g := G2) (by kernel_rfl))
      · rfl
      · intro W hR hJ hΦ
        obtain ⟨g0, hσ, hg0, gg, hblk⟩ := hΦ.1 (by rfl)
        refine ⟨W.setRow g0 (gcs G2), by (refine exec_store_blk 33 (.tmp 8) (.tmp 51) rfl ?_ ?_ hblk Hg2.out size_game; exact hσ; rfl), ?_, rgRs.store hσ hblk Hg2.out, g0, ?_, hblk.setRow Hg2.out⟩
        · exact below_of_grown (row := some g0) ⟨rfl, rfl, rfl, by simp, fun k _ hk => Go.setRow_other W g0 k _ (fun e => hk (by rw [e]))⟩ hR.size (fun k e => by cases e; exact hg0)
        · rw [upd_ne (by decide)]; exact hσ
      simp only [Act.put]
      repeat
        apply lexS_ex (by decide) (by decide) (Below.refl _) (fun _ _ W => rgRs.ext (Ext.refl W))
        · rfl
        · intro W' hR hJ hΦ
          go_simp
          first | done | with_reducible rfl
        simp only [Act.put, List.setIfInBounds_toArray, List.set_cons_zero, List.set_cons_succ]
      refine lexS_nil ?_
      intro W hR hap hΦ
      obtain ⟨g0, hσ, hb14⟩ := hΦ.1 rfl
      rw [hσ]
      have hR2 : Ext wr W := hR
      have d0 := hR2.cell d0
      have d1 := hR2.cell d1
      have xR := xk.trans hR2
      have rR := rk.ext hR2
      have gR := gk.ext hR2
      have gaR := ga2.ext hR2
      have heq := fun W => eq_game W Hg2.out
      clear hR hΦ hap hσ hR2 xk rk gk ga2 hc Hst
      have hix7 : (0 : Int) ≤ (k : Int) + 1 ∧ (k : Int) + 1 < (Q.length : Int) + 1 := by omega
      have hix8 : (0 : Int) ≤ (k : Int) + 1 := by omega
      have hix9 : (k : Int) + 1 < (Q.length : Int) + 1 := by omega
      have hix10 : k + 1 < Q.length + 1 := by omega
      go_wp2_with fail
      apply wp_region_lex (R := Ext) (by kernel_rfl) (by kernel_rfl) Ext.refl (fun _ _ _ => Ext.trans) (Ext.drew _)
      repeat
        apply lex_ex Ext.refl
        · rfl
        · intro W' hR hΦ
          first
            | exact exec_load_gm 33 _ rfl rfl Try.underlying33 size_game (hb14.gm.ext hR)
            | exact exec_load_gat 31 _ rfl rfl Try.underlying31 size_state (gaR.ext hR)
            | (go_simp; first | done | with_reducible rfl)
        simp only [Act.put, List.setIfInBounds_toArray, List.set_cons_zero, List.set_cons_succ]
      refine lex_nil ?_
      intro W5 hR5 hΦ
      have d0 := hR5.cell d0
      have d1 := hR5.cell d1
      have x5 := xR.trans hR5
      have r5 := rR.ext hR5
      have g5 := gR.ext hR5
      clear hΦ hR5 xR rR gR gaR hb14
      go_wp2_with fail
      go_roundw
      case rel => exact ⟨k + 1, by go_num, hlt, d0, d1, r5, g5, x5⟩
      case measure => simp [intOf]; omega
    · have hd : decide (k < Q.length) = false := decide_eq_false hlt
      go_wp2_with fail
      go_ret
      exact ⟨rfl, xk⟩
end Go.Proofs.Ytihegdjdgklbgaa
