/- The walks of the reference's Name, op. -/
import Derived.Test.YtbmgiidecidojaaDoorAsmO
import Derived.Test.YtbmgiidecidojaaDoorAsmR
import Derived.RegionTactic
import Derived.ChangeAlike
namespace Go.Proofs.YtbmgiidecidojaaDoor
open Go.RowKit

theorem name_is (w : World) (c : Nat) (hc : c < 16) :
    Calls Tryd.prog 17 #[.int .i64 (c : Nat)] w fun e w' => e = .returned (.string (bs (namesL.getD c []))) ∧ Ext w w' := by
  have h0 : (0 : Int) ≤ (c : Int) ∧ (c : Int) < 16 := by omega
  go_enter Tryd.func17, Tryd.ntmps17
  go_upto_region 2 with fail
  generalize hV : World.alloc w _ = V
  have hn : NmAt V w.heap.size := by subst hV; exact nm_made w _
  have e1 : Ext w V := by subst hV; exact Ext.alloc _ _
  have hcell := hn c hc
  clear hV hn
  go_wp2_with fail
  go_ret
  exact ⟨rfl, e1⟩

/-- Three numbers that may be written. -/
def NBox (w : World) (g : Nat) (a b c : Int) : Prop :=
  (w.cell? ⟨g, 0, none⟩ = some (.int .i64 a) ∧ w.cell? ⟨g, 1, none⟩ = some (.int .i64 b) ∧ w.cell? ⟨g, 2, none⟩ = some (.int .i64 c)) ∧ w.frozen? ⟨g, 0, none⟩ = false ∧ w.frozen? ⟨g, 1, none⟩ = false ∧ w.frozen? ⟨g, 2, none⟩ = false
section
variable {w w' : World} {g : Nat} {a b c : Int}
theorem NBox.lt (h : NBox w g a b c) : g < w.heap.size := World.block_lt_of_cell? w _ h.1.1
theorem NBox.new (w : World) (T : TypeId) (a b c : Int) {g : Nat} (hg : g = w.heap.size) : NBox (w.alloc (.cells #[.int .i64 a, .int .i64 b, .int .i64 c] T)) g a b c := by
  subst hg
  refine ⟨⟨?_, ?_, ?_⟩, ?_, ?_, ?_⟩ <;> go_simp
theorem NBox.grown (h : NBox w g a b c) {row : Option Nat} (hg : w.grownBy w' row) (hne : row ≠ some g) : NBox w' g a b c := by
  have hb := hg.block g h.lt (fun e => hne e.symm)
  have hf : ∀ o, w'.frozen? ⟨g, o, none⟩ = w.frozen? ⟨g, o, none⟩ := fun o => by simp [World.frozen?, hb]
  have hc : ∀ o, w'.cell? ⟨g, o, none⟩ = w.cell? ⟨g, o, none⟩ := fun o => World.cell?_of_block (a := ⟨g, o, none⟩) hb
  exact ⟨⟨(hc 0).trans h.1.1, (hc 1).trans h.1.2.1, (hc 2).trans h.1.2.2⟩, (hf 0).trans h.2.1, (hf 1).trans h.2.2.1, (hf 2).trans h.2.2.2⟩
theorem NBox.ext (h : NBox w g a b c) (e : Ext w w') : NBox w' g a b c := h.grown (e.grownBy none) (by simp)
theorem NBox.set0 (h : NBox w g a b c) (u : Int) : NBox (w.setCell ⟨g, 0, none⟩ (.int .i64 u)) g u b c := by
  obtain ⟨⟨h0, h1, h2⟩, f0, f1, f2⟩ := h
  refine ⟨⟨?_, ?_, ?_⟩, ?_, ?_, ?_⟩ <;> go_simp
theorem NBox.set1 (h : NBox w g a b c) (u : Int) : NBox (w.setCell ⟨g, 1, none⟩ (.int .i64 u)) g a u c := by
  obtain ⟨⟨h0, h1, h2⟩, f0, f1, f2⟩ := h
  refine ⟨⟨?_, ?_, ?_⟩, ?_, ?_, ?_⟩ <;> go_simp
theorem NBox.set2 (h : NBox w g a b c) (u : Int) : NBox (w.setCell ⟨g, 2, none⟩ (.int .i64 u)) g a b u := by
  obtain ⟨⟨h0, h1, h2⟩, f0, f1, f2⟩ := h
  refine ⟨⟨?_, ?_, ?_⟩, ?_, ?_, ?_⟩ <;> go_simp
end

theorem names_own : ∀ c, c < 16 → namesL.idxOf (namesL.getD c []) = c := by decide
theorem takesL_ge {c : Nat} (h : c < 16) : 0 ≤ takesL c := by
  unfold takesL
  repeat' split
  all_goals omega
theorem opW_at {x0 : List UInt8} {tl : List (List UInt8)} {c : Nat} (hc : c < 16) (hq : namesL.getD c [] = x0) (hT : (tl.length : Int) = takesL c) : opW (x0 :: tl) = (argsL tl).map (mkO c) := by
  have hK : namesL.idxOf x0 = c := by rw [← hq, names_own c hc]
  rw [opW_is hK, if_pos ⟨hc, hT⟩]
theorem opW_no {x0 : List UInt8} {tl : List (List UInt8)} (h : ∀ j, j < 16 → ¬ (namesL.getD j [] = x0 ∧ (tl.length : Int) = takesL j)) : opW (x0 :: tl) = none := by
  rw [opW_is rfl, if_neg]
  rintro ⟨h1, h2⟩
  refine h _ h1 ⟨?_, h2⟩
  have hl : namesL.idxOf x0 < namesL.length := h1
  rw [List.getD_eq_getElem?_getD, List.getElem?_eq_getElem hl, List.getElem_idxOf]; rfl
def roRel (w : World) (x0 : List UInt8) (tl : List (List UInt8)) (cv : Value) (wr : World) : Prop :=
  ∃ c : Nat, cv = .int .i64 (c : Nat) ∧ c ≤ 16 ∧ (∀ j, j < c → ¬ (namesL.getD j [] = x0 ∧ (tl.length : Int) = takesL j)) ∧ FBox wr w.heap.size 0 0 0 0 ∧ Ext w wr
def rnRel (w : World) (tl : List (List UInt8)) (c g5 g6 : Nat) (kv : Value) (wr : World) : Prop :=
  ∃ (k : Nat) (ns : List Int), kv = .int .i64 (k : Nat) ∧ k ≤ tl.length ∧ argsL (tl.take k) = some ns ∧ ns.length = k ∧ FBox wr g5 c 0 0 0 ∧ NBox wr g6 (ns.getD 0 0) (ns.getD 1 0) (ns.getD 2 0) ∧ FBox wr w.heap.size 0 0 0 0 ∧ Ext w wr

set_option maxRecDepth 100000 in
set_option maxHeartbeats 4000000 in
theorem rop_any (w : World) (A : Option Addr) (n cp : Nat) (ws : List (List UInt8)) (hw : Ws w A n cp ws) (hne : ws ≠ []) (hlx : ∀ x ∈ ws, x.length ≤ 1099511627776) (hlw : ws.length ≤ 1099511627777) :
    Calls Tryd.prog 25 #[.slice A n cp] w (OpOf w (opW ws)) := by
  have hn := hw.len
  subst hn
  obtain ⟨x0, tl, rfl⟩ := List.exists_cons_of_ne_nil hne
  clear hne
  obtain ⟨b, o, rfl, hc0⟩ := hw.at_ (k := 0) (by simp)
  simp only [List.getElem_cons_zero, Nat.add_zero] at hc0
  have htl : tl.length ≤ 1099511627776 := by simp at hlw; omega
  have Hw := Lib.hid hw
  have Hlx := Lib.hid hlx
  clear hw hlx hlw
  go_enter Tryd.func25, Tryd.ntmps25
  go_wp2_with fail
  generalize hV0 : World.alloc w _ = V0
  have eV0 : Ext w V0 := by subst hV0; exact Ext.alloc _ _
  have F2 : FBox V0 w.heap.size 0 0 0 0 := by subst hV0; exact FBox.new _ _ _ _ _ _ rfl
  clear hV0
  go_loopw [4] (fun cv wr => roRel w x0 tl cv wr) (fun cv _ => 16 - (intOf cv).toNat)
  case atStart => exact ⟨0, rfl, by omega, fun j hj => by omega, F2, eV0⟩
  case round =>
    obtain ⟨c, rfl, hc, hbef, F2r, Xr⟩ := hrel
    have Hbef := Lib.hid hbef
    clear hbef F2 eV0 V0
    by_cases hlt : c < 16
    · have hci : (0 : Int) ≤ (c : Int) ∧ (c : Int) < 16 := by omega
      have hc0r := Xr.cell hc0
      obtain ⟨nm, hnm⟩ : ∃ nm, namesL.getD c [] = nm := ⟨_, rfl⟩
      have hname := fun W => name_is W c hlt
      rw [hnm] at hname
      have Hname := Lib.hid hname
      have Hnm := Lib.hid hnm
      clear hname hnm
      by_cases hq : nm = x0
      · have hsb : (x0 == nm) = true := by rw [beq_iff_eq]; exact hq.symm
        have Hq := Lib.hid (Hnm.out.trans hq)
        clear hq
        have htk := fun W => rtakes_is W c hci.1 (by omega) rfl
        obtain ⟨T, hT⟩ : ∃ T, takesL c = T := ⟨_, rfl⟩
        have hT0 := takesL_ge hlt
        have hT3 := takesL_le c
        rw [hT] at htk hT0 hT3
        have hwr : IntKind.i64.wrap (1 + T) = 1 + T := by rw [IntKind.wrap_i64]; omega
        have Htk := Lib.hid htk
        have HT := Lib.hid hT
        clear htk hT
        by_cases hl : (tl.length : Int) = T
        · have hd2 : ((tl.length : Int) + 1 != 1 + T) = false := by rw [bne_eq_false_iff_eq]; omega
          have Hl := Lib.hid hl
          have Ho := Lib.hid (opW_at (tl := tl) hlt Hq.out (hl.trans HT.out.symm))
          clear hl
          go_wp2_with fail
          apply wp_region_lex (R := Ext) (by kernel_rfl) (by kernel_rfl) Ext.refl (fun _ _ _ => Ext.trans) (Ext.drew _)
          repeat
            first
              | (apply lex_ex Ext.refl
                 · rfl
                 · intro W hR hΦ
                   have y0 := hR.cell hc0r
                   go_simp
                   first | done | with_reducible rfl)
              | (apply lex_skip
                 · rfl)
            simp only [Act.put, List.setIfInBounds_toArray, List.set_cons_zero, List.set_cons_succ]
          apply lex_callx
          · rfl
          · intro W
            go_simp
            exact ⟨rfl, rfl⟩
          · intro W hR hΦ
            exact Hname.out W
          simp only [Act.put, List.setIfInBounds_toArray, List.set_cons_zero, List.set_cons_succ]
          repeat
            first
              | (apply lex_ex Ext.refl
                 · rfl
                 · intro W hR hΦ
                   have y0 := hR.cell hc0r
                   go_simp
                   first | done | with_reducible rfl)
              | (apply lex_skip
                 · rfl)
            simp only [Act.put, List.setIfInBounds_toArray, List.set_cons_zero, List.set_cons_succ]
          apply lex_callx
          · rfl
          · intro W
            go_simp
            exact ⟨rfl, rfl⟩
          · intro W hR hΦ
            exact Htk.out W
          simp only [Act.put, List.setIfInBounds_toArray, List.set_cons_zero, List.set_cons_succ]
          repeat
            first
              | (apply lex_ex Ext.refl
                 · rfl
                 · intro W hR hΦ
                   have y0 := hR.cell hc0r
                   go_simp
                   first | done | with_reducible rfl)
              | (apply lex_skip
                 · rfl)
            simp only [Act.put, List.setIfInBounds_toArray, List.set_cons_zero, List.set_cons_succ]
          refine lex_nil ?_
          intro W5 hR5 hΦ
          clear hΦ
          have F2n := F2r.ext hR5
          have Xn := Xr.trans hR5
          clear F2r Xr hR5 hc0r Hname
          go_upto_region 7 with fail
          generalize hW6 : World.alloc (World.alloc W5 _) _ = W6
          have x56 : Ext W5 W6 := by subst hW6; exact (Ext.alloc _ _).trans (Ext.alloc _ _)
          have F5 : FBox W6 W5.heap.size c 0 0 0 := by subst hW6; exact (FBox.new W5 _ _ _ _ _ rfl).ext (Ext.alloc _ _)
          have N6 : NBox W6 (W5.heap.size + 1) 0 0 0 := by subst hW6; exact NBox.new _ _ _ _ _ (by simp)
          clear hW6
          have hw5 : w.heap.size < W5.heap.size := F2n.lt
          have F2n := F2n.ext x56
          have Xn := Xn.trans x56
          clear x56
          generalize W5.heap.size = g5 at *
          obtain ⟨g6, hg6⟩ : ∃ g6, g5 + 1 = g6 := ⟨_, rfl⟩
          rw [hg6] at N6
          rw [hg6]
          have hgw5 : w.heap.size ≤ g5 := by omega
          have hgw6 : w.heap.size ≤ g6 := by omega
          have hg65 : g6 ≠ g5 := by omega
          have hg62 : g6 ≠ w.heap.size := by omega
          have hg52 : g5 ≠ w.heap.size := by omega
          clear hg6
          go_wp2_with fail
          go_loopw [7] (fun kv wr => rnRel w tl c g5 g6 kv wr) (fun kv _ => tl.length - (intOf kv).toNat)
          case atStart => exact ⟨0, [], rfl, Nat.zero_le _, rfl, rfl, F5, N6, F2n, Xn⟩
          case round =>
            obtain ⟨k, ns, rfl, hk, ha, hns, F5q, Nq, F2q, Xq⟩ := hrel
            clear F5 N6 F2n Xn
            have Ha := Lib.hid ha
            clear ha
            go_wp2_with fail
            refine (Htk.out _).mono ?_
            rintro e W3 ⟨rfl, e3⟩
            have F5r := F5q.ext e3
            have Nr := Nq.ext e3
            have F2k := F2q.ext e3
            have Xk := Xq.trans e3
            clear F5q Nq F2q Xq e3
            by_cases hk2 : k < tl.length
            · have hkT : decide ((k : Int) < T) = true := decide_eq_true (by have := Hl.out; omega)
              obtain ⟨b2, o2, hAe, hc⟩ := (Hw.out.ext Xk).at_ (k := k + 1) (by simp; omega)
              obtain ⟨rfl, rfl⟩ : b = b2 ∧ o = o2 := by cases hAe; exact ⟨rfl, rfl⟩
              simp only [List.getElem_cons_succ] at hc
              have hx : tl[k].length ≤ 1099511627776 := Hlx.out _ (List.mem_cons_of_mem _ (List.getElem_mem hk2))
              have Htk2 := Lib.hid (List.take_succ_eq_append_getElem hk2).symm
              have Hmem := Lib.hid (List.getElem_mem hk2)
              generalize tl[k] = xk at *
              have hki : (0 : Int) ≤ (k : Int) ∧ (k : Int) < tl.length := by omega
              have hk1 : IntKind.i64.wrap ((k : Int) + 1) = (k : Int) + 1 := by rw [IntKind.wrap_i64]; omega
              have has := argsL_snoc xk (tl.take k)
              rw [Htk2.out, Ha.out] at has
              have hT3' : T ≤ 3 := hT3
              go_wp2_with fail
              refine (rnumber_any W3 xk hx).mono ?_
              rintro e w2 ⟨n0, rfl, hn0, hb1, hb2, rfl⟩
              cases hn : numL xk with
              | none =>
                have Ho2 : RowKit.Hid (opW (x0 :: tl) = none) := Lib.hid (by rw [Ho.out, argsL_bad hn tl Hmem.out]; rfl)
                clear has hn hn0
                obtain ⟨⟨j0, j1, j2, j3⟩, r0, r1, r2, r3⟩ := id F2k
                go_wp2_with fail
                generalize hWy : World.setCell _ ⟨w.heap.size, 3, none⟩ _ = Wy
                have Fy : FBox Wy w.heap.size 0 0 0 0 := by subst hWy; exact FBox.put4 F2k 0 0 0 0
                have gy : W3.grownBy Wy (some w.heap.size) := by subst hWy; exact put4_grown _ _ _ _ _ _
                have Xy : Ext w Wy := Ext.room Xk gy (Nat.le_refl _)
                clear hWy
                obtain ⟨⟨q0, q1, q2, q3⟩, -⟩ := id Fy
                exact bodyPost_ret (v := .tuple #[opAgg (0, 0, 0, 0), .bool false]) (by unfold opAgg; simp [results, Tryd.results25, go_sem, q0, q1, q2, q3]) rfl ⟨by rw [Ho2.out]; rfl, Xy⟩
              | some n =>
                rw [hn] at has
                have Has := Lib.hid has
                have hne : n0 = n := hn0 n hn
                subst hne
                clear has hn hn0
                rcases (show k = 0 ∨ k = 1 ∨ k = 2 by have := Hl.out; omega) with rfl | rfl | rfl
                · obtain rfl : ns = [] := List.eq_nil_of_length_eq_zero hns
                  obtain ⟨⟨k0, k1, k2⟩, f0, f1, f2⟩ := id Nr
                  simp only [List.getD_nil] at k0 k1 k2
                  go_wp2_with fail
                  go_roundw
                  case rel => exact ⟨1, [n0], by go_num, hk2, Has.out, rfl, F5r.grown (grownSet W3 _ rfl _) (some_ne hg65), Nr.set0 n0, F2k.grown (grownSet W3 _ rfl _) (some_ne hg62), Ext.room Xk (grownSet W3 _ rfl _) hgw6⟩
                  case measure => simp [intOf]; omega
                · obtain ⟨x, rfl⟩ : ∃ x, ns = [x] := List.length_eq_one_iff.mp hns
                  obtain ⟨⟨k0, k1, k2⟩, f0, f1, f2⟩ := id Nr
                  simp only [List.getD_cons_zero, List.getD_cons_succ, List.getD_nil] at k0 k1 k2
                  go_wp2_with fail
                  go_roundw
                  case rel => exact ⟨2, [x, n0], by go_num, hk2, Has.out, rfl, F5r.grown (grownSet W3 _ rfl _) (some_ne hg65), Nr.set1 n0, F2k.grown (grownSet W3 _ rfl _) (some_ne hg62), Ext.room Xk (grownSet W3 _ rfl _) hgw6⟩
                  case measure => simp [intOf]; omega
                · obtain ⟨x, y, rfl⟩ : ∃ x y, ns = [x, y] := by
                    match ns, hns with
                    | [x, y], _ => exact ⟨x, y, rfl⟩
                  obtain ⟨⟨k0, k1, k2⟩, f0, f1, f2⟩ := id Nr
                  simp only [List.getD_cons_zero, List.getD_cons_succ, List.getD_nil] at k0 k1 k2
                  go_wp2_with fail
                  go_roundw
                  case rel => exact ⟨3, [x, y, n0], by go_num, hk2, Has.out, rfl, F5r.grown (grownSet W3 _ rfl _) (some_ne hg65), Nr.set2 n0, F2k.grown (grownSet W3 _ rfl _) (some_ne hg62), Ext.room Xk (grownSet W3 _ rfl _) hgw6⟩
                  case measure => simp [intOf]; omega
            · obtain rfl : k = tl.length := by omega
              have hkT : decide ((tl.length : Int) < T) = false := decide_eq_false (by have := Hl.out; omega)
              have ha := Ha.out
              rw [List.take_length] at ha
              have Ho2 : RowKit.Hid (opW (x0 :: tl) = some (mkO c ns)) := Lib.hid (by rw [Ho.out, ha]; rfl)
              clear ha Ha hns
              obtain ⟨x, hx⟩ : ∃ x, ns.getD 0 0 = x := ⟨_, rfl⟩
              obtain ⟨y, hy⟩ : ∃ y, ns.getD 1 0 = y := ⟨_, rfl⟩
              obtain ⟨z, hz⟩ : ∃ z, ns.getD 2 0 = z := ⟨_, rfl⟩
              rw [hx, hy, hz] at Nr
              have Ho3 : RowKit.Hid (opW (x0 :: tl) = some ((c : Int), x, y, z)) := Lib.hid (by rw [Ho2.out, mkO, hx, hy, hz])
              clear hx hy hz Ho2
              obtain ⟨⟨k0, k1, k2⟩, f0, f1, f2⟩ := id Nr
              obtain ⟨⟨i0, i1, i2, i3⟩, m0, m1, m2, m3⟩ := id F5r
              go_upto_region 14 with fail
              go_region
              generalize hW9 : World.setCell _ ⟨g5, 3, none⟩ _ = W9
              have F9 : FBox W9 g5 c x y z := by subst hW9; exact ((F5r.set1 x).set2 y).set3 z
              have g9 : W3.grownBy W9 (some g5) := by
                subst hW9
                exact grown_trans (grown_trans (grownSet _ _ rfl _) (grownSet _ _ rfl _)) (grownSet _ _ rfl _)
              clear hW9 F5r Nr k0 k1 k2 f0 f1 f2 i0 i1 i2 i3 m0 m1 m2 m3
              have F29 := F2k.grown g9 (some_ne hg52)
              have X9 := Ext.room Xk g9 hgw5
              clear F2k Xk g9
              obtain ⟨⟨i0, i1, i2, i3⟩, m0, m1, m2, m3⟩ := id F9
              obtain ⟨⟨j0, j1, j2, j3⟩, r0, r1, r2, r3⟩ := id F29
              go_wp2_with fail
              generalize hWy : World.setCell _ ⟨w.heap.size, 3, none⟩ _ = Wy
              have Fy : FBox Wy w.heap.size c x y z := by subst hWy; exact FBox.put4 F29 c x y z
              have gy : W9.grownBy Wy (some w.heap.size) := by subst hWy; exact put4_grown _ _ _ _ _ _
              have Xy : Ext w Wy := Ext.room X9 gy (Nat.le_refl _)
              clear hWy
              obtain ⟨⟨q0, q1, q2, q3⟩, -⟩ := id Fy
              exact bodyPost_ret (v := .tuple #[opAgg ((c : Int), x, y, z), .bool true]) (by unfold opAgg; simp [results, Tryd.results25, go_sem, q0, q1, q2, q3]) rfl ⟨by rw [Ho3.out]; rfl, Xy.trans (Ext.drew _)⟩
        · have hd2 : ((tl.length : Int) + 1 != 1 + T) = true := by rw [bne_iff_ne]; omega
          have Hl := Lib.hid hl
          clear hl
          go_wp2_with fail
          apply wp_region_lex (R := Ext) (by kernel_rfl) (by kernel_rfl) Ext.refl (fun _ _ _ => Ext.trans) (Ext.drew _)
          repeat
            first
              | (apply lex_ex Ext.refl
                 · rfl
                 · intro W hR hΦ
                   have y0 := hR.cell hc0r
                   go_simp
                   first | done | with_reducible rfl)
              | (apply lex_skip
                 · rfl)
            simp only [Act.put, List.setIfInBounds_toArray, List.set_cons_zero, List.set_cons_succ]
          apply lex_callx
          · rfl
          · intro W
            go_simp
            exact ⟨rfl, rfl⟩
          · intro W hR hΦ
            exact Hname.out W
          simp only [Act.put, List.setIfInBounds_toArray, List.set_cons_zero, List.set_cons_succ]
          repeat
            first
              | (apply lex_ex Ext.refl
                 · rfl
                 · intro W hR hΦ
                   have y0 := hR.cell hc0r
                   go_simp
                   first | done | with_reducible rfl)
              | (apply lex_skip
                 · rfl)
            simp only [Act.put, List.setIfInBounds_toArray, List.set_cons_zero, List.set_cons_succ]
          apply lex_callx
          · rfl
          · intro W
            go_simp
            exact ⟨rfl, rfl⟩
          · intro W hR hΦ
            exact Htk.out W
          simp only [Act.put, List.setIfInBounds_toArray, List.set_cons_zero, List.set_cons_succ]
          repeat
            first
              | (apply lex_ex Ext.refl
                 · rfl
                 · intro W hR hΦ
                   have y0 := hR.cell hc0r
                   go_simp
                   first | done | with_reducible rfl)
              | (apply lex_skip
                 · rfl)
            simp only [Act.put, List.setIfInBounds_toArray, List.set_cons_zero, List.set_cons_succ]
          refine lex_nil ?_
          intro W5 hR5 hΦ
          clear hΦ
          go_wp2_with fail
          go_roundw
          case rel => exact ⟨c + 1, by go_num, hlt, fun j hj => by
            by_cases e : j = c
            · subst e; rintro ⟨h1, h2⟩; exact Hl.out (h2.trans HT.out)
            · exact Hbef.out j (by omega), F2r.ext hR5, Xr.trans hR5⟩
          case measure => simp [intOf]; omega
      · have hsb : (x0 == nm) = false := by rw [beq_eq_false_iff_ne]; exact fun e => hq e.symm
        have Hq := Lib.hid hq
        clear hq
        go_wp2_with fail
        apply wp_region_lex (R := Ext) (by kernel_rfl) (by kernel_rfl) Ext.refl (fun _ _ _ => Ext.trans) (Ext.drew _)
        repeat
          first
            | (apply lex_ex Ext.refl
               · rfl
               · intro W hR hΦ
                 have y0 := hR.cell hc0r
                 go_simp
                 first | done | with_reducible rfl)
            | (apply lex_skip
               · rfl)
          simp only [Act.put, List.setIfInBounds_toArray, List.set_cons_zero, List.set_cons_succ]
        apply lex_callx
        · rfl
        · intro W
          go_simp
          exact ⟨rfl, rfl⟩
        · intro W hR hΦ
          exact Hname.out W
        simp only [Act.put, List.setIfInBounds_toArray, List.set_cons_zero, List.set_cons_succ]
        repeat
          first
            | (apply lex_ex Ext.refl
               · rfl
               · intro W hR hΦ
                 have y0 := hR.cell hc0r
                 go_simp
                 first | done | with_reducible rfl)
            | (apply lex_skip
               · rfl)
          simp only [Act.put, List.setIfInBounds_toArray, List.set_cons_zero, List.set_cons_succ]
        refine lex_nil ?_
        intro W5 hR5 hΦ
        clear hΦ
        go_wp2_with fail
        go_roundw
        case rel => exact ⟨c + 1, by go_num, hlt, fun j hj => by
          by_cases e : j = c
          · subst e; rintro ⟨h1, h2⟩; exact Hq.out (Hnm.out.symm.trans h1)
          · exact Hbef.out j (by omega), F2r.ext hR5, Xr.trans hR5⟩
        case measure => simp [intOf]; omega
    · obtain rfl : c = 16 := by omega
      have Ho := Lib.hid (opW_no Hbef.out)
      obtain ⟨⟨j0, j1, j2, j3⟩, r0, r1, r2, r3⟩ := id F2r
      go_wp2_with fail
      generalize hWy : World.setCell _ ⟨w.heap.size, 3, none⟩ _ = Wy
      have Fy : FBox Wy w.heap.size 0 0 0 0 := by subst hWy; exact FBox.put4 F2r 0 0 0 0
      have gy : wr.grownBy Wy (some w.heap.size) := by subst hWy; exact put4_grown _ _ _ _ _ _
      have Xy : Ext w Wy := Ext.room Xr gy (Nat.le_refl _)
      clear hWy
      obtain ⟨⟨q0, q1, q2, q3⟩, -⟩ := id Fy
      exact bodyPost_ret (v := .tuple #[opAgg (0, 0, 0, 0), .bool false]) (by unfold opAgg; simp [results, Tryd.results25, go_sem, q0, q1, q2, q3]) rfl ⟨by rw [Ho.out]; rfl, Xy⟩
end Go.Proofs.YtbmgiidecidojaaDoor
