/- The walks of asm.names, asm.operation. -/
import Derived.Test.YtbmgiidecidojaaDoorAsmT
import Derived.Test.YtbmgiidecidojaaDoorCodQ2
namespace Go.Proofs.YtbmgiidecidojaaDoor
open Go.RowKit

theorem Ext.room {w a b : World} (h : Ext w a) {g : Nat} (hg : a.grownBy b (some g)) (hB : w.heap.size ≤ g) : Ext w b :=
  Below.trans h (below_of_grown hg h.size fun k hk => by cases hk; exact hB)
/-- Words in memory. -/
def Ws (w : World) (A : Option Addr) (n c : Nat) (l : List (List UInt8)) : Prop := Rd w 1 A n c (scs l)
section
variable {w w' : World} {A : Option Addr} {n c : Nat} {l : List (List UInt8)}
theorem Ws.len (h : Ws w A n c l) : n = l.length := by have := h.1; rw [scs_length] at this; omega
theorem Ws.ext (h : Ws w A n c l) (he : Ext w w') : Ws w' A n c l := Rd.ext h he
theorem Ws.grown (h : Ws w A n c l) {row : Option Nat} (hg : w.grownBy w' row) (hne : ∀ a, A = some a → row ≠ some a.block) : Ws w' A n c l := Rd.grown h hg hne
theorem Ws.cut (h : Ws w A n c l) {k : Nat} (hk : k ≤ n) : ∃ A', (if c = k then A else Option.map (fun x => x.add k) A) = A' ∧ Ws w A' (n - k) (c - k) (l.drop k) := by
  have := Rd.drop h hk
  rw [Nat.mul_one, show (scs l).drop k = scs (l.drop k) by simp [scs, List.map_drop]] at this
  exact ⟨_, rfl, this⟩
theorem Ws.at_ (h : Ws w A n c l) {k : Nat} (hk : k < l.length) : ∃ b o, A = some ⟨b, o, none⟩ ∧ w.cell? ⟨b, o + k, none⟩ = some (.string (bs l[k])) := by
  obtain ⟨b, o, e, u, hu, hc⟩ := Rd.at_ h (k := k) (by rw [h.len]; exact hk)
  refine ⟨b, o, e, ?_⟩
  have : u = .string (bs l[k]) := by
    unfold scs at hu
    rw [List.getElem?_map, List.getElem?_eq_getElem hk] at hu
    exact (Option.some.inj hu).symm
  rw [← this]; exact hc
end

/-- The names of operations lie there. -/
def NmAt (w : World) (g : Nat) : Prop := ∀ j, j < 16 → w.cell? ⟨g, j, none⟩ = some (.string (bs (namesL.getD j [])))
theorem NmAt.ext {w w' : World} {g : Nat} (h : NmAt w g) (e : Ext w w') : NmAt w' g := fun j hj => e.cell (h j hj)
theorem nm_made (w : World) (t : TypeId) : NmAt (w.alloc (.cells (scs namesL).toArray t)) w.heap.size := by
  intro j hj
  rw [cell_of_row _ _ _ _ _ _ (heap_alloc_new w _)]
  have hlen : namesL.length = 16 := rfl
  rw [List.getElem?_toArray, scs, List.getElem?_map, List.getD_eq_getElem?_getD, List.getElem?_eq_getElem (by rw [hlen]; exact hj)]
  rfl
def NmOf (w : World) (r : Ending) (w' : World) : Prop := ∃ g, r = .returned (.slice (some ⟨g, 0, none⟩) 16 16) ∧ NmAt w' g ∧ w.heap.size ≤ g ∧ Ext w w'
theorem names_any (w : World) : Calls Tryd.prog 30 #[] w (NmOf w) := by
  go_enter Tryd.func30, Tryd.ntmps30
  go_wp2_with fail
  go_ret
  exact ⟨_, rfl, nm_made w _, Nat.le_refl _, Ext.alloc _ _⟩
theorem idx_names (w : World) (g : Nat) (x : List UInt8) (h : NmAt w g) :
    Calls Tryd.prog 39 #[.slice (some ⟨g, 0, none⟩) 16 16, .string (bs x)] w fun e w' => e = .returned (.int .i64 (if namesL.idxOf x < 16 then (namesL.idxOf x : Int) else -1)) ∧ w = w' := by
  have hg : ∀ j, (namesL.map bs).getD j ByteArray.empty = bs (namesL.getD j []) := fun j => by
    rw [List.getD_eq_getElem?_getD, List.getD_eq_getElem?_getD, List.getElem?_map]
    cases namesL[j]? <;> rfl
  refine (Tryd.slices_Index_string g 0 16 16 (namesL.map bs) (bs x) w (by decide) (by decide) (fun j hj => ?_)).mono ?_
  · rw [Nat.zero_add, hg]; exact h j hj
  · rintro e w1 ⟨rfl, rfl⟩
    refine ⟨?_, rfl⟩
    congr 2
    have hlen : namesL.length = 16 := rfl
    by_cases hi : namesL.idxOf x < 16
    · rw [if_pos hi]
      have h1 : namesL[namesL.idxOf x]? = some x := by
        rw [List.getElem?_eq_getElem (by rw [hlen]; exact hi), List.getElem_idxOf]
      refine Lib.idxOfS_hit _ 16 _ _ hi (by simp [hlen]) ?_ ?_
      · rw [hg, List.getD_eq_getElem?_getD, h1]; rfl
      · intro j hj e
        rw [hg, bs_inj] at e
        have hjl : j < namesL.length := by rw [hlen]; omega
        rw [List.getD_eq_getElem?_getD, List.getElem?_eq_getElem hjl] at e
        have := List.not_of_lt_findIdx (p := (· == x)) (xs := namesL) hj
        have e' : namesL[j] = x := by simpa using e
        rw [e'] at this
        simp at this
    · rw [if_neg hi]
      refine Lib.idxOfS_miss _ 16 _ fun j hj e => ?_
      rw [hg, bs_inj] at e
      apply hi
      rw [← hlen, List.idxOf_lt_length_iff, ← e, List.getD_eq_getElem?_getD, List.getElem?_eq_getElem (by rw [hlen]; exact hj)]
      exact List.getElem_mem _

/-- What reading an operation's words leaves. -/
def OpOf (w : World) (r : Option OpT) (e : Ending) (w' : World) : Prop := e = .returned (.tuple #[opAgg (r.getD (0, 0, 0, 0)), .bool r.isSome]) ∧ Ext w w'
theorem wgo_ne : ∀ (t cur : List UInt8), cur ≠ [] → wgo t cur ≠ []
  | [], cur, h => by rw [wgo, if_neg h]; simp
  | b :: t, cur, h => by
    rw [wgo]
    split
    · simp
    · exact wgo_ne t _ (by simp)
theorem words_ne {l : List UInt8} (h : l ≠ []) (hb : blank (l.getD 0 0) = false) : wordsL l ≠ [] := by
  obtain ⟨b, t, rfl⟩ := List.exists_cons_of_ne_nil h
  unfold wordsL
  rw [wgo, if_neg (by rw [show blank b = false from hb]; simp)]
  exact wgo_ne t _ (by simp)
theorem argsL_cons (x : List UInt8) (r : List (List UInt8)) : argsL (x :: r) = match numL x, argsL r with | some n, some m => some (n :: m) | _, _ => none := rfl
theorem argsL_len : ∀ (l : List (List UInt8)) (ns : List Int), argsL l = some ns → ns.length = l.length
  | [], ns, h => by rw [argsL] at h; cases h; rfl
  | x :: r, ns, h => by
    rw [argsL] at h
    cases h1 : numL x <;> cases h2 : argsL r <;> simp only [h1, h2] at h <;> try cases h
    rename_i m
    simp [argsL_len r m h2]

theorem wgo_len : ∀ (t cur : List UInt8), (wgo t cur).length ≤ t.length + 1
  | [], cur => by rw [wgo]; split <;> simp
  | b :: t, cur => by
    have h1 := wgo_len t []
    have h2 := wgo_len t (cur ++ [b])
    rw [wgo]
    split
    · split
      · simp; omega
      · simp; omega
    · simp; omega
theorem wgo_each : ∀ (t cur x : List UInt8), x ∈ wgo t cur → x.length ≤ t.length + cur.length
  | [], cur, x, h => by
    rw [wgo] at h
    split at h
    · simp at h
    · simp at h; subst h; omega
  | b :: t, cur, x, h => by
    rw [wgo] at h
    split at h
    · split at h
      · have := wgo_each t [] x h; simp at this ⊢; omega
      · rcases List.mem_cons.mp h with rfl | h
        · simp
        · have := wgo_each t [] x h; simp at this ⊢; omega
    · have := wgo_each t (cur ++ [b]) x h; simp at this ⊢; omega
theorem opW_is {x0 : List UInt8} {tl : List (List UInt8)} {K : Nat} (hK : namesL.idxOf x0 = K) : opW (x0 :: tl) = if K < 16 ∧ (tl.length : Int) = takesL K then (argsL tl).map (mkO K) else none := by subst hK; rfl
theorem argsL_snoc (x : List UInt8) : ∀ a : List (List UInt8), argsL (a ++ [x]) = match argsL a, numL x with | some ns, some n => some (ns ++ [n]) | _, _ => none
  | [] => by cases h : numL x <;> simp [argsL, h]
  | y :: a => by
    rw [List.cons_append, argsL_cons, argsL_cons, argsL_snoc x a]
    cases numL y <;> cases argsL a <;> cases numL x <;> simp
theorem argsL_bad {x : List UInt8} (hx : numL x = none) : ∀ l : List (List UInt8), x ∈ l → argsL l = none
  | y :: l, h => by
    rw [argsL_cons]
    rcases List.mem_cons.mp h with rfl | h
    · rw [hx]
    · rw [argsL_bad hx l h]; cases numL y <;> rfl
theorem takesL_le (c : Int) : takesL c ≤ 3 := by
  unfold takesL
  repeat' split
  all_goals omega
def odRel (w : World) (A : Option Addr) (c : Nat) (tl : List (List UInt8)) (K : Nat) (g g2 : Nat) (iv : Value) (wr : World) : Prop :=
  ∃ (k : Nat) (ns : List Int), iv = .int .i64 (k : Nat) ∧ k ≤ tl.length ∧ argsL (tl.take k) = some ns ∧ ns.length = k ∧ FBox wr g K (ns.getD 0 0) (ns.getD 1 0) (ns.getD 2 0) ∧ FBox wr g2 0 0 0 0 ∧ Ws wr A tl.length c tl ∧ Ext w wr

set_option maxRecDepth 100000 in
set_option maxHeartbeats 4000000 in
theorem operation_any (w : World) (l : List UInt8) (hl : l.length ≤ 1099511627776) (hne : wordsL l ≠ []) :
    Calls Tryd.prog 21 #[.string (bs l)] w (OpOf w (opL l)) := by
  have hdef : opL l = opW (wordsL l) := rfl
  rw [hdef]
  go_enter Tryd.func21, Tryd.ntmps21
  go_wp2_with fail
  generalize hV0 : World.alloc w _ = V0
  have eV0 : Ext w V0 := by subst hV0; exact Ext.alloc _ _
  have F2 : FBox V0 w.heap.size 0 0 0 0 := by subst hV0; exact FBox.new _ _ _ _ _ _ rfl
  clear hV0
  refine (words_any V0 l hl).mono ?_
  rintro e w1 ⟨B, d, base, rfl, hb, ho, e1⟩
  have hw : Ws w1 B (wordsL l).length d (wordsL l) := ho.rd
  have F2 := F2.ext e1
  have X1 := eV0.trans e1
  have hlw : (wordsL l).length ≤ 1099511627777 := by
    have := wgo_len l []
    unfold wordsL; omega
  have hlx : ∀ x ∈ wordsL l, x.length ≤ 1099511627776 := fun x hx => by
    have := wgo_each l [] x hx
    simp at this; omega
  clear ho hb eV0 e1 hdef
  generalize wordsL l = ws at *
  obtain ⟨x0, tl, rfl⟩ := List.exists_cons_of_ne_nil hne
  clear hne
  obtain ⟨b, o, rfl, hc0⟩ := hw.at_ (k := 0) (by simp)
  have Hw := Lib.hid hw
  have hd := Rd.at_ hw (k := 0) (by simp)
  clear hw hd
  simp only [List.getElem_cons_zero, Nat.add_zero] at hc0
  have hlt0 : (0 : Int) < ((tl.length + 1 : Nat) : Int) := by omega
  obtain ⟨K, hK⟩ : ∃ K, namesL.idxOf x0 = K := ⟨_, rfl⟩
  obtain ⟨I, hI⟩ : ∃ I : Int, (if K < 16 then (K : Int) else -1) = I := ⟨_, rfl⟩
  have HI := Lib.hid hI
  have HK := Lib.hid hK
  clear hI hK
  go_wp2_with fail
  apply wp_region_lex_tail 7 (R := Ext) (by rfl) (by rfl) (by rfl) (by kernel_rfl) (by kernel_rfl) (by kernel_rfl) Ext.refl (fun _ _ _ => Ext.trans) (Ext.drew _)
  simp only [List.take_succ_cons, List.take_zero]
  apply lex_call (p := fun v W => ∃ g, v = .slice (some ⟨g, 0, none⟩) 16 16 ∧ NmAt W g) (fun _ _ _ ⟨g, h1, h2⟩ e => ⟨g, h1, h2.ext e⟩)
  · rfl
  · intro W
    go_simp
    exact ⟨rfl, rfl⟩
  · intro W hR hΦ
    refine (names_any W).mono ?_
    rintro e w' ⟨g, rfl, hn, -, he⟩
    exact ⟨_, rfl, he, g, rfl, hn⟩
  intro nv
  simp only [Act.put, List.setIfInBounds_toArray, List.set_cons_zero, List.set_cons_succ]
  apply lex_ex Ext.refl
  · rfl
  · intro W hR hΦ
    go_simp
    first | done | with_reducible rfl
  simp only [Act.put, List.setIfInBounds_toArray, List.set_cons_zero, List.set_cons_succ]
  apply lex_ex Ext.refl
  · rfl
  · intro W hR hΦ
    go_simp
    first | done | with_reducible rfl
  simp only [Act.put, List.setIfInBounds_toArray, List.set_cons_zero, List.set_cons_succ]
  apply lex_ex Ext.refl
  · rfl
  · intro W hR hΦ
    have hc0 := hR.cell hc0
    go_simp
    first | done | with_reducible rfl
  simp only [Act.put, List.setIfInBounds_toArray, List.set_cons_zero, List.set_cons_succ]
  apply lex_callx (u := .int .i64 I)
  · rfl
  · intro W
    go_simp
    exact ⟨rfl, rfl⟩
  · intro W hR hΦ
    obtain ⟨g, rfl, hn⟩ := hΦ.1 rfl
    refine (idx_names W g x0 hn).mono ?_
    rintro e w' ⟨rfl, rfl⟩
    exact ⟨by rw [HK.out, HI.out], Ext.refl _⟩
  simp only [Act.put, List.setIfInBounds_toArray, List.set_cons_zero, List.set_cons_succ]
  apply lex_ex Ext.refl
  · rfl
  · intro W hR hΦ
    go_simp
    first | done | with_reducible rfl
  simp only [Act.put, List.setIfInBounds_toArray, List.set_cons_zero, List.set_cons_succ]
  apply lex_new (p := fun v W => ∃ g, v = .pointer (some ⟨g, 0, none⟩) ∧ w1.heap.size ≤ g ∧ FBox W g 0 0 0 0) (fun _ _ _ ⟨g, h1, h2, h3⟩ e => ⟨g, h1, h2, h3.ext e⟩)
  · rfl
  · intro W hR hΦ
    refine ⟨.pointer (some ⟨W.heap.size, 0, none⟩), W.alloc (.cells #[.int .i64 0, .int .i64 0, .int .i64 0, .int .i64 0] 39), ?_, Ext.alloc _ _, W.heap.size, rfl, hR.size, FBox.new W _ _ _ _ _ rfl⟩
    go_simp
    first | done | rfl
  intro pv
  simp only [Act.put, List.setIfInBounds_toArray, List.set_cons_zero, List.set_cons_succ]
  refine lex_nil ?_
  intro W7 hR7 hΦ
  obtain ⟨g, rfl, hg, F5⟩ := hΦ.1 rfl
  clear hΦ
  have hg2 : w.heap.size < w1.heap.size := F2.lt
  have F2 := F2.ext hR7
  have X7 := X1.trans hR7
  have Hw := Lib.hid (Hw.out.ext hR7)
  have Hlx := Lib.hid hlx
  have hgw : w.heap.size ≤ g := by omega
  have hgg : g ≠ w.heap.size := by omega
  have hbg : b < w1.heap.size := World.block_lt_of_cell? w1 _ hc0
  have hgb : (some g : Option Nat) ≠ some b := by simp; omega
  clear hc0 hR7 X1 hlx
  obtain ⟨⟨k0, k1, k2, k3⟩, f0, f1, f2, f3⟩ := id F5
  go_upto_region 3 with fail
  clear k0 k1 k2 k3 f0 f1 f2 f3
  generalize hWz : World.setCell _ ⟨g, 3, none⟩ _ = Wz
  have F5z : FBox Wz g I 0 0 0 := by subst hWz; exact F5.put4 I 0 0 0
  have gz : W7.grownBy Wz (some g) := by subst hWz; exact put4_grown W7 g I 0 0 0
  clear hWz F5
  have F2z : FBox Wz w.heap.size 0 0 0 0 := F2.grown gz (some_ne hgg)
  have Xz : Ext w Wz := Ext.room X7 gz hgw
  have Hw := Lib.hid (Hw.out.grown gz (fun a ha => by cases ha; exact hgb))
  clear F2 X7 gz
  by_cases hK : K < 16
  · have hI := HI.out
    rw [if_pos hK] at hI
    subst hI
    clear HI
    have hd1 : decide ((K : Int) < 0) = false := decide_eq_false (by omega)
    obtain ⟨⟨k0, k1, k2, k3⟩, f0, f1, f2, f3⟩ := id F5z
    go_wp2_with fail
    refine (takes_any Wz K (by omega) (by omega)).mono ?_
    rintro e w2 ⟨rfl, rfl⟩
    have htl : tl.length ≤ 1099511627776 := by simp at hlw; omega
    have hwr : wrap64 (tl.length : Int) = tl.length := by unfold wrap64; omega
    by_cases hT : (tl.length : Int) = takesL K
    · have ho : opW (x0 :: tl) = (argsL tl).map (mkO K) := by
        rw [opW_is HK.out, if_pos ⟨hK, hT⟩]
      have Ho := Lib.hid ho
      have ht3 : tl.length ≤ 3 := by have := takesL_le K; omega
      have hd2 : ((tl.length : Int) != takesL K) = false := by rw [hT]; simp
      have hlen1 : ((tl.length + 1 : Nat) : Int) - 1 = tl.length := by omega
      obtain ⟨A', hA', hw'⟩ := Hw.out.cut (k := 1) (by simp)
      have hmx : tl.length + 1 ≤ d := Hw.out.2.1
      have hcx : d ≤ 9223372036854775807 := Hw.out.2.2.1
      have hA2 : (if d = 1 then some (⟨b, o, none⟩ : Addr) else some ⟨b, o + 1, none⟩) = A' := by
        rw [← hA']
        by_cases h : d = 1 <;> simp [h, Addr.add]
      simp only [List.length_cons, Nat.add_sub_cancel, List.drop_succ_cons, List.drop_zero] at hw'
      have hAb : ∀ a, A' = some a → a.block = b := by
        intro a ha
        subst hA'
        split at ha
        · cases ha; rfl
        · cases ha; rfl
      have Hw' := Lib.hid hw'
      clear hT ho hw' Hw HK
      go_wp2_with fail
      clear hA' hA2 k0 k1 k2 k3 f0 f1 f2 f3
      go_loopw [34] (fun iv wr => odRel w A' (d - 1) tl K g w.heap.size iv wr) (fun iv _ => tl.length - (intOf iv).toNat)
      case atStart => exact ⟨0, [], rfl, Nat.zero_le _, rfl, rfl, F5z, F2z, Hw'.out, Xz⟩
      case round =>
        obtain ⟨k, ns, rfl, hk, ha, hns, F5r, F2r, hwr2, Xr⟩ := hrel
        clear F5z F2z Xz Hw'
        have Ha := Lib.hid ha
        have Hwr := Lib.hid hwr2
        clear ha hwr2
        by_cases hlt : k < tl.length
        · obtain ⟨b', o', hAe, hc⟩ := Hwr.out.at_ hlt
          have hb' : b' = b := hAb _ hAe
          subst hAe hb'
          have hx : tl[k].length ≤ 1099511627776 := Hlx.out _ (List.mem_cons_of_mem _ (List.getElem_mem hlt))
          have Htk := Lib.hid (List.take_succ_eq_append_getElem hlt).symm
          have Hmem := Lib.hid (List.getElem_mem hlt)
          have hgb' : (some g : Option Nat) ≠ some b' := hgb
          generalize tl[k] = xk at *
          have hki : (0 : Int) ≤ (k : Int) ∧ (k : Int) < tl.length := by omega
          go_wp2_with fail
          refine (number_any wr xk hx).mono ?_
          rintro e w2 ⟨rfl, e2⟩
          have F5n := F5r.ext e2
          have F2n := F2r.ext e2
          have Hwn := Lib.hid (Hwr.out.ext e2)
          have Xn := Xr.trans e2
          clear F5r F2r Hwr Xr hc
          have has := argsL_snoc xk (tl.take k)
          rw [Htk.out, Ha.out] at has
          cases hn : numL xk with
          | none =>
            have Ho2 : RowKit.Hid (opW (x0 :: tl) = none) := Lib.hid (by rw [Ho.out, argsL_bad hn tl Hmem.out]; rfl)
            clear has hn
            obtain ⟨⟨j0, j1, j2, j3⟩, r0, r1, r2, r3⟩ := id F2n
            go_wp2_with fail
            generalize hWy : World.setCell _ ⟨w.heap.size, 3, none⟩ _ = Wy
            have Fy : FBox Wy w.heap.size 0 0 0 0 := by subst hWy; exact FBox.put4 F2n 0 0 0 0
            have gy : w2.grownBy Wy (some w.heap.size) := by subst hWy; exact put4_grown _ _ _ _ _ _
            have Xy : Ext w Wy := Ext.room Xn gy (Nat.le_refl _)
            clear hWy
            obtain ⟨⟨q0, q1, q2, q3⟩, -⟩ := id Fy
            exact bodyPost_ret (v := .tuple #[opAgg (0, 0, 0, 0), .bool false]) (by unfold opAgg; simp [results, Tryd.results21, go_sem, q0, q1, q2, q3]) rfl ⟨by rw [Ho2.out]; rfl, Xy⟩
          | some n =>
            rw [hn] at has
            have Has := Lib.hid has
            clear has hn
            rcases (show k = 0 ∨ k = 1 ∨ k = 2 by omega) with rfl | rfl | rfl
            · obtain rfl : ns = [] := List.eq_nil_of_length_eq_zero hns
              obtain ⟨⟨k0, k1, k2, k3⟩, f0, f1, f2, f3⟩ := id F5n
              simp only [List.getD_nil] at k1 k2 k3
              go_wp2_with fail
              go_roundw
              case rel => exact ⟨1, [n], by go_num, hlt, Has.out, rfl, F5n.set1 n, F2n.grown (grownSet w2 _ rfl _) (some_ne hgg), Hwn.out.grown (grownSet w2 _ rfl _) (fun a ha => by cases ha; exact hgb'), Ext.room Xn (grownSet w2 _ rfl _) hgw⟩
              case measure => simp [intOf]; omega
            · obtain ⟨x, rfl⟩ : ∃ x, ns = [x] := List.length_eq_one_iff.mp hns
              obtain ⟨⟨k0, k1, k2, k3⟩, f0, f1, f2, f3⟩ := id F5n
              simp only [List.getD_cons_zero, List.getD_cons_succ, List.getD_nil] at k1 k2 k3
              go_wp2_with fail
              go_roundw
              case rel => exact ⟨2, [x, n], by go_num, hlt, Has.out, rfl, F5n.set2 n, F2n.grown (grownSet w2 _ rfl _) (some_ne hgg), Hwn.out.grown (grownSet w2 _ rfl _) (fun a ha => by cases ha; exact hgb'), Ext.room Xn (grownSet w2 _ rfl _) hgw⟩
              case measure => simp [intOf]; omega
            · obtain ⟨x, y, rfl⟩ : ∃ x y, ns = [x, y] := by
                match ns, hns with
                | [x, y], _ => exact ⟨x, y, rfl⟩
              obtain ⟨⟨k0, k1, k2, k3⟩, f0, f1, f2, f3⟩ := id F5n
              simp only [List.getD_cons_zero, List.getD_cons_succ, List.getD_nil] at k1 k2 k3
              go_wp2_with fail
              go_roundw
              case rel => exact ⟨3, [x, y, n], by go_num, hlt, Has.out, rfl, F5n.set3 n, F2n.grown (grownSet w2 _ rfl _) (some_ne hgg), Hwn.out.grown (grownSet w2 _ rfl _) (fun a ha => by cases ha; exact hgb'), Ext.room Xn (grownSet w2 _ rfl _) hgw⟩
              case measure => simp [intOf]; omega
        · obtain rfl : k = tl.length := by omega
          have ha := Ha.out
          rw [List.take_length] at ha
          have Ho2 : RowKit.Hid (opW (x0 :: tl) = some (mkO K ns)) := Lib.hid (by rw [Ho.out, ha]; rfl)
          clear ha Ha hns
          obtain ⟨⟨k0, k1, k2, k3⟩, f0, f1, f2, f3⟩ := id F5r
          obtain ⟨⟨j0, j1, j2, j3⟩, r0, r1, r2, r3⟩ := id F2r
          obtain ⟨x, hx⟩ : ∃ x, ns.getD 0 0 = x := ⟨_, rfl⟩
          obtain ⟨y, hy⟩ : ∃ y, ns.getD 1 0 = y := ⟨_, rfl⟩
          obtain ⟨z, hz⟩ : ∃ z, ns.getD 2 0 = z := ⟨_, rfl⟩
          rw [hx] at k1
          rw [hy] at k2
          rw [hz] at k3
          have Ho3 : RowKit.Hid (opW (x0 :: tl) = some ((K : Int), x, y, z)) := Lib.hid (by rw [Ho2.out, mkO, hx, hy, hz])
          clear F5r hx hy hz Ho2
          go_wp2_with fail
          generalize hWy : World.setCell _ ⟨w.heap.size, 3, none⟩ _ = Wy
          have Fy : FBox Wy w.heap.size K x y z := by subst hWy; exact FBox.put4 F2r K x y z
          have gy : wr.grownBy Wy (some w.heap.size) := by subst hWy; exact put4_grown _ _ _ _ _ _
          have Xy : Ext w Wy := Ext.room Xr gy (Nat.le_refl _)
          clear hWy
          obtain ⟨⟨q0, q1, q2, q3⟩, -⟩ := id Fy
          exact bodyPost_ret (v := .tuple #[opAgg ((K : Int), x, y, z), .bool true]) (by unfold opAgg; simp [results, Tryd.results21, go_sem, q0, q1, q2, q3]) rfl ⟨by rw [Ho3.out]; rfl, Xy⟩
    · have ho : opW (x0 :: tl) = none := by
        rw [opW_is HK.out, if_neg fun h => hT h.2]
      have Ho := Lib.hid ho
      have hd2 : ((tl.length : Int) != takesL K) = true := by rw [bne_iff_ne]; exact hT
      clear hT ho
      obtain ⟨⟨j0, j1, j2, j3⟩, r0, r1, r2, r3⟩ := id F2z
      go_wp2_with fail
      generalize hWy : World.setCell _ ⟨w.heap.size, 3, none⟩ _ = Wy
      have Fy : FBox Wy w.heap.size 0 0 0 0 := by subst hWy; exact FBox.put4 F2z 0 0 0 0
      have gy : Wz.grownBy Wy (some w.heap.size) := by subst hWy; exact put4_grown _ _ _ _ _ _
      have Xy : Ext w Wy := Ext.room Xz gy (Nat.le_refl _)
      clear hWy
      obtain ⟨⟨q0, q1, q2, q3⟩, -⟩ := id Fy
      exact bodyPost_ret (v := .tuple #[opAgg (0, 0, 0, 0), .bool false]) (by unfold opAgg; simp [results, Tryd.results21, go_sem, q0, q1, q2, q3]) rfl ⟨by rw [Ho.out]; rfl, Xy⟩
  · have hI := HI.out
    rw [if_neg hK] at hI
    subst hI
    have ho : opW (x0 :: tl) = none := by
      rw [opW_is HK.out, if_neg fun h => hK h.1]
    have Ho := Lib.hid ho
    clear ho HI
    obtain ⟨⟨k0, k1, k2, k3⟩, f0, f1, f2, f3⟩ := id F5z
    obtain ⟨⟨j0, j1, j2, j3⟩, r0, r1, r2, r3⟩ := id F2z
    go_wp2_with fail
    generalize hWy : World.setCell _ ⟨w.heap.size, 3, none⟩ _ = Wy
    have Fy : FBox Wy w.heap.size 0 0 0 0 := by subst hWy; exact FBox.put4 F2z 0 0 0 0
    have gy : Wz.grownBy Wy (some w.heap.size) := by subst hWy; exact put4_grown _ _ _ _ _ _
    have Xy : Ext w Wy := Ext.room Xz gy (Nat.le_refl _)
    clear hWy
    obtain ⟨⟨q0, q1, q2, q3⟩, -⟩ := id Fy
    exact bodyPost_ret (v := .tuple #[opAgg (0, 0, 0, 0), .bool false]) (by unfold opAgg; simp [results, Tryd.results21, go_sem, q0, q1, q2, q3]) rfl ⟨by rw [Ho.out]; rfl, Xy⟩
end Go.Proofs.YtbmgiidecidojaaDoor
