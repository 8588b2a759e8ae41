/- The walk of the reference's Parse. -/
import Derived.Test.YtbmgiidecidojaaDoorAsmV
import Derived.Test.YtbmgiidecidojaaDoorAsmU
import Derived.Test.YtbmgiidecidojaaDoorRuneW2
namespace Go.Proofs.YtbmgiidecidojaaDoor
open Go.RowKit

theorem pf_end (i j : Nat) (t : Option (List UInt8)) (ops : List OpT) : parseF [[]] i t ops = parseF [] j t ops := by
  rw [pf_blank]; cases t <;> rw [parseF, parseF]
theorem pf_more (x : List UInt8) (i : Nat) (t : Option (List UInt8)) (ops : List OpT) : parseF [x] i t ops = parseF [x, []] i t ops := by
  by_cases hx : x = []
  · subst hx; rw [pf_blank, pf_blank]; exact (pf_end _ _ _ _).symm
  · cases t with
    | none =>
      rw [pf_ttl hx, pf_ttl hx]
      cases ttlL x with
      | none => rfl
      | some t => exact (pf_end _ _ _ _).symm
    | some t =>
      rw [pf_op hx, pf_op hx]
      cases opL x with
      | none => rfl
      | some o =>
        dsimp only
        split
        · rfl
        · exact (pf_end _ _ _ _).symm
theorem lines_hit {s : List UInt8} {a : Nat} (ha : a < s.length) (h : bt s a = 10) (hb : ∀ j, j < a → bt s j ≠ 10) : linesL s = bareL (s.take a) :: linesL (s.drop (a + 1)) := by
  unfold linesL
  rw [split_skip a s [] (by omega) hb, split_at ha h]; simp
theorem lines_end {s : List UInt8} (hb : ∀ j, j < s.length → bt s j ≠ 10) : linesL s = [bareL s] := by
  unfold linesL
  rw [split_skip s.length s [] (Nat.le_refl _) hb]; simp [splitL]
theorem lines_step {s : List UInt8} {a k : Nat} {t : Option (List UInt8)} {ops : List OpT} (ha : a ≤ s.length) (hb : ∀ j, j < a → bt s j ≠ 10) (h : a = s.length ∨ bt s a = 10) :
    parseF (linesL s) k t ops = parseF (bareL (s.take a) :: linesL (s.drop (min s.length (a + 1)))) k t ops := by
  by_cases hl : a < s.length
  · rw [lines_hit hl (by rcases h with h | h; omega; exact h) hb, Nat.min_eq_right hl]
  · obtain rfl : a = s.length := by omega
    rw [lines_end hb, List.take_length, Nat.min_eq_left (Nat.le_succ _), List.drop_length, pf_more]; rfl
theorem bare_blank {b : UInt8} (r : List UInt8) (h : blank b = true) : bareL (b :: r) = bareL r := by
  have h1 : (b.toNat != 35) = true := by
    unfold blank at h
    rw [bne_iff_ne]; intro e; rw [e] at h; exact absurd h (by decide)
  unfold bareL cutH
  rw [List.takeWhile_cons, if_pos h1]
  unfold skipB
  rw [List.dropWhile_cons, if_pos h]
theorem ttl_six {x : List UInt8} (h5 : 5 < x.length) (hb : blank (x.getD 5 0) = true) : bareL (x.drop 5) = bareL (x.drop 6) := by
  rw [List.drop_eq_getElem_cons h5]
  refine bare_blank _ ?_
  rwa [List.getD_eq_getElem?_getD, List.getElem?_eq_getElem h5] at hb
theorem title_ne {t : List UInt8} (h : titleL t = true) : t ≠ [] := by
  rintro rfl; exact absurd h (by decide)

def arRel (w : World) (l : List UInt8) (R : Nat ⊕ (List UInt8 × List OpT)) (sv kv : Value) (wr : World) : Prop :=
  ∃ (s : List UInt8) (k : Nat) (t : Option (List UInt8)) (ops : List OpT) (B : Option Addr) (m d : Nat), sv = .string (bs s) ∧ kv = .int .i64 (k : Nat) ∧ k + s.length ≤ l.length ∧ RowKit.Hid (parseF (linesL s) k t ops = R) ∧
    Grow wr (w.heap.size + 1) (w.heap.size + 1) (t.getD []) B m d ops ∧ PBox wr w.heap.size [] none 0 0 ∧ Ext w wr ∧ RowKit.Hid (t = none → ops = []) ∧ RowKit.Hid (∀ x, t = some x → x ≠ []) ∧ ops.length ≤ 64
def atRel (s : List UInt8) (W : World) (av : Value) (wr : World) : Prop := ∃ a : Nat, av = .int .i64 (a : Nat) ∧ a ≤ s.length ∧ (∀ j, j < a → bt s j ≠ 10) ∧ wr = W

set_option maxRecDepth 100000 in
set_option maxHeartbeats 8000000 in
theorem rparse_any (w : World) (l : List UInt8) (hl : l.length ≤ 1099511627776) :
    Calls Tryd.prog 12 #[.string (bs l)] w (ParseOf w (parseL l)) := by
  obtain ⟨i0, hi, hz0, hz1, hz2⟩ := info_parts info_op
  have HR : RowKit.Hid (parseF (linesL l) 0 none [] = parseL l) := Lib.hid rfl
  obtain ⟨R, hR⟩ : ∃ R, parseL l = R := ⟨_, rfl⟩
  rw [hR] at HR
  rw [hR]
  clear hR
  go_enter Tryd.func12, Tryd.ntmps12
  go_wp2_with fail
  generalize hW0 : World.alloc (World.alloc w _) _ = W0
  have x0 : Ext w W0 := by subst hW0; exact (Ext.alloc _ _).trans (Ext.alloc _ _)
  have hp0 : PBox W0 w.heap.size [] none 0 0 := by subst hW0; exact (PBox.new _ _ _ _ _ _ rfl).ext (Ext.alloc _ _)
  have hG0 : Grow W0 (w.heap.size + 1) (w.heap.size + 1) [] none 0 0 [] := by subst hW0; exact Grow.start _ _ _ (by simp)
  clear hW0
  go_loopw [0, 6] (fun sv kv wr => arRel w l R sv kv wr) (fun sv _ _ => lenOf sv)
  case atStart => exact ⟨l, 0, none, [], none, 0, 0, rfl, rfl, by omega, HR, hG0, hp0, x0, Lib.hid (fun _ => rfl), Lib.hid (fun x hx => by cases hx), by simp⟩
  case round =>
    obtain ⟨s, k, t, ops, B, m, d, rfl, rfl, hk, Hp, hG, hP, X, Htn, Hte, h64⟩ := hrel
    have hm := hG.len
    clear hG0 hp0 x0 W0
    by_cases hs : s = []
    · subst hs
      have hpf := Hp.out
      rw [show linesL [] = [[]] from rfl, pf_end k k] at hpf
      have hpf2 : (if ops = [] then Sum.inl 0 else Sum.inr (t.getD [], ops)) = R := by
        rw [← hpf]; cases t <;> rw [parseF]
      obtain ⟨p0, p1, p2, p3⟩ := id hG.1
      obtain ⟨q0, q1, q2, q3⟩ := id hP
      by_cases h0 : ops = []
      · rw [if_pos h0] at hpf2
        have HR := Lib.hid hpf2
        obtain rfl : m = 0 := by rw [hm, h0]; rfl
        clear hpf hpf2 h0 hm Hp
        cases t with
        | none =>
          go_wp2_with fail
          have xe := X
          exact bodyPost_ret (v := .tuple #[pAgg [] none 0 0, .int .i64 0, .int .i64 1]) (by unfold pAgg; simp [results, Tryd.results12, go_sem, q0, q1]; rfl) rfl (.inl ⟨0, HR.out.symm, rfl, (xe.setCell (Nat.le_refl _) _).setCell (Nat.le_refl _) _⟩)
        | some tt =>
          have hce : tt.isEmpty = false := by have := Hte.out tt rfl; cases tt <;> simp at this ⊢
          go_wp2_with fail
          have xe := X
          exact bodyPost_ret (v := .tuple #[pAgg [] none 0 0, .int .i64 0, .int .i64 1]) (by unfold pAgg; simp [results, Tryd.results12, go_sem, q0, q1]; rfl) rfl (.inl ⟨0, HR.out.symm, rfl, (xe.setCell (Nat.le_refl _) _).setCell (Nat.le_refl _) _⟩)
      · rw [if_neg h0] at hpf2
        have HR := Lib.hid hpf2
        have hm0 : 0 < m := by rw [hm]; exact List.length_pos_iff.mpr h0
        have hm1 : ((m : Int) == 0) = false := by rw [beq_eq_false_iff_ne]; omega
        cases t with
        | none => exact absurd (Htn.out rfl) h0
        | some tt =>
          have hce : tt.isEmpty = false := by have := Hte.out tt rfl; cases tt <;> simp at this ⊢
          clear hpf hpf2 h0 hm Hp
          simp only [Option.getD_some] at HR p0
          go_wp2_with fail
          have hne : blk B ≠ some w.heap.size := fun e => by have := hG.2.1.blk_ge _ e; omega
          have ho2 : Own ((wr.setCell ⟨w.heap.size, 0, none⟩ (.string (bs tt))).setCell ⟨w.heap.size, 1, none⟩ (.slice B m d)) w.heap.size 39 4 B m d (opcs ops) :=
            ((hG.2.1.mono (Nat.le_succ _)).kept (grownSet (g := w.heap.size) wr ⟨w.heap.size, 0, none⟩ rfl _) (.inr hne)).kept (grownSet (g := w.heap.size) _ ⟨w.heap.size, 1, none⟩ rfl _) (.inr hne)
          exact bodyPost_ret (v := .tuple #[pAgg tt B m d, .int .i64 0, .int .i64 0]) (by unfold pAgg; simp [results, Tryd.results12, go_sem, q0, q1]) rfl (.inr ⟨tt, ops, HR.out.symm, B, m, d, rfl, ho2, (X.setCell (Nat.le_refl _) _).setCell (Nat.le_refl _) _⟩)
    · have hs0 := List.length_pos_iff.mpr hs
      have hki : (0 : Int) ≤ (k : Int) ∧ (k : Int) < l.length := by omega
      have hk1 : IntKind.i64.wrap ((k : Int) + 1) = (k : Int) + 1 := by rw [IntKind.wrap_i64]; omega
      have hsl : s.length ≤ 1099511627776 := by omega
      have Hs := Lib.hid hs
      clear hs
      go_upto_block 2 with fail
      go_cut [7] (fun av wx => ∃ a : Nat, av = .int .i64 (a : Nat) ∧ a ≤ s.length ∧ (∀ j, j < a → bt s j ≠ 10) ∧ (a = s.length ∨ bt s a = 10) ∧ wx = wr)
      case first =>
        go_wp2_with fail
        go_loopw [7] (fun av w' => atRel s wr av w') (fun av _ => s.length - (intOf av).toNat)
        case atStart => exact ⟨0, rfl, Nat.zero_le _, (fun j hj => by omega), rfl⟩
        case round =>
          obtain ⟨a, rfl, ha, hb, rfl⟩ := hrel
          have Hb := Lib.hid hb
          clear hb
          by_cases hlt : a < s.length
          · have hix := fun W => str_at (P := Tryd.prog) W _ Tryd.underlying9 s a hlt
            have h256 := bt_lt s a
            by_cases h10 : bt s a = 10
            · have Hi := Lib.hid h10
              rw [h10] at hix
              clear h10
              go_wp2_with fail
              go_meet
              exact ⟨a, rfl, ha, Hb.out, .inr Hi.out, rfl⟩
            · have b1 : (((bt s a : Nat) : Int) != 10) = true := by rw [bne_iff_ne]; omega
              have Hi := Lib.hid h10
              clear h10
              go_wp2_with fail
              go_roundw
              case rel => exact ⟨a + 1, by go_num, hlt, (fun j hj => by
                by_cases e : j = a
                · subst e; exact Hi.out
                · exact Hb.out j (by omega)), rfl⟩
              case measure => simp [intOf]; omega
          · obtain rfl : a = s.length := by omega
            go_wp2_with fail
            go_meet
            exact ⟨_, rfl, ha, Hb.out, .inl rfl, rfl⟩
      case rest =>
        obtain ⟨a, rfl, ha, hb, hab, rfl⟩ := hcut
        have hpf := Hp.out
        rw [lines_step ha hb hab] at hpf
        have Hpf := Lib.hid hpf
        have hai : (0 : Int) ≤ (a : Int) ∧ (a : Int) ≤ s.length := by omega
        have ha1 : IntKind.i64.wrap ((a : Int) + 1) = (a : Int) + 1 := by rw [IntKind.wrap_i64]; omega
        have hsl2 : (s.take a).length ≤ 1099511627776 := by simp; omega
        obtain ⟨s', hs'⟩ : ∃ s', s.drop (min s.length (a + 1)) = s' := ⟨_, rfl⟩
        have hle : s'.length + 1 ≤ s.length := by rw [← hs']; simp; omega
        have Hs' := Lib.hid hs'
        rw [hs'] at hpf
        have Hpf2 := Lib.hid hpf
        have hmin : (min (s.length : Int) ((a : Int) + 1)).toNat = min s.length (a + 1) := by omega
        have Hmin := Lib.hid hmin
        clear hpf hb hab hs' Hpf hmin
        go_wp2_with fail
        refine (rtrim_any wc (s.take a) hsl2).mono ?_
        rintro e w1 ⟨rfl, e1⟩
        have G1 := hG.ext e1
        have P1 := hP.ext e1
        have X1 := X.trans e1
        clear hG hP X e1
        go_upto_region 10 with fail
        rw [Hmin.out, Hs'.out]
        have hxl0 := bareL_le (s.take a)
        have hxl : (bareL (s.take a)).length ≤ 1099511627776 := by omega
        have Hw : RowKit.Hid (bareL (s.take a) ≠ [] → wordsL (bareL (s.take a)) ≠ []) := Lib.hid fun h => words_ne h (bareL_first h)
        have hpf := Hpf2.out
        clear hxl0 Hpf2 Hmin Hs'
        generalize bareL (s.take a) = x at *
        by_cases hxe : x = []
        · subst hxe
          rw [pf_blank] at hpf
          have Hpf := Lib.hid hpf
          clear hpf
          go_wp2_with fail
          go_roundw
          case rel => exact ⟨s', k + 1, t, ops, B, m, d, rfl, by go_num, by omega, Hpf, G1, P1, X1, Htn, Hte, h64⟩
          case measure => simp [lenOf, bs_size]; omega
        · have hce : x.isEmpty = false := by cases x <;> simp at hxe ⊢
          obtain ⟨p0, p1, p2, p3⟩ := id G1.1
          cases t with
          | none =>
            obtain rfl : ops = [] := by first | exact Htn.out rfl | exact Htn.out trivial
            rw [pf_ttl hxe] at hpf
            have Hpf := Lib.hid hpf
            clear hpf
            by_cases h5 : 5 < x.length
            · have h5d : decide ((5 : Int) < (x.length : Int)) = true := decide_eq_true (by omega)
              have h5i : (5 : Int) ≤ (x.length : Int) := by omega
              by_cases htk : x.take 5 = ttlW
              · have htb : (x.take 5 == [116, 105, 116, 108, 101]) = true := by rw [beq_iff_eq]; exact htk
                have hix : ∀ W, (Instr.index 9 (.string (bs x)) (.int .i64 5)).run Tryd.prog W = .ok (.int .u8 (bt x 5 : Nat)) W := fun W => str_at (P := Tryd.prog) W _ Tryd.underlying9 x 5 h5
                have h256 := bt_lt x 5
                by_cases hb : bt x 5 = 32 ∨ bt x 5 = 9
                · have hbl : blank (x.getD 5 0) = true := by rw [blank_bt]; exact decide_eq_true hb
                  have hy := ttl_yes ⟨htk, h5, hbl⟩
                  rw [ttl_six h5 hbl] at hy
                  have Hy := Lib.hid hy
                  have Hb := Lib.hid (decide_eq_true hb)
                  have h6 : (x.drop 6).length ≤ 1099511627776 := by simp; omega
                  have h6i : (6 : Int) ≤ (x.length : Int) := by omega
                  clear hy hb htk hbl
                  go_wp2_with fail
                  refine (rblank_is _ _ Hb.out).mono ?_
                  rintro e w2 ⟨rfl, rfl⟩
                  go_wp2_with fail
                  refine (rtrim_any _ (x.drop 6) h6).mono ?_
                  rintro e w2 ⟨rfl, e2⟩
                  go_wp2_with fail
                  refine (rtitle_any _ (bareL (x.drop 6)) (Nat.le_trans (bareL_le _) h6)).mono ?_
                  rintro e w3 ⟨rfl, e3⟩
                  have G2 := G1.ext (e2.trans e3)
                  have P2 := P1.ext (e2.trans e3)
                  have X2 := X1.trans (e2.trans e3)
                  clear G1 P1 X1 e2 e3
                  obtain ⟨p0, p1, p2, p3⟩ := id G2.1
                  generalize bareL (x.drop 6) = t' at *
                  cases htl : titleL t' with
                  | false =>
                    have HR : RowKit.Hid (Sum.inl (k + 1) = R) := Lib.hid (by rw [← Hpf.out, Hy.out, htl]; rfl)
                    obtain ⟨q0, q1, q2, q3⟩ := id P2
                    go_wp2_with fail
                    have xe := X2
                    exact bodyPost_ret (v := .tuple #[pAgg [] none 0 0, .int .i64 ((k : Int) + 1), .int .i64 1]) (by unfold pAgg; simp [results, Tryd.results12, go_sem, q0, q1]; rfl) rfl (.inl ⟨k + 1, HR.out.symm, by go_num, (xe.setCell (Nat.le_refl _) _).setCell (Nat.le_refl _) _⟩)
                  | true =>
                    have HR := Hpf.out
                    rw [Hy.out, htl, if_pos rfl] at HR
                    have HR := Lib.hid HR
                    have Ht := Lib.hid (title_ne htl)
                    clear Hpf Hy htl
                    go_wp2_with fail
                    go_roundw
                    case rel =>
                      exact ⟨s', k + 1, some t', [], B, m, d, rfl, by go_num, by omega, HR, ⟨G2.1.setT t', G2.2.1.kept (grownSet (g := w.heap.size + 1) w3 ⟨w.heap.size + 1, 0, none⟩ rfl _) (.inr G2.2.2.1), G2.2.2⟩, P2.grown (grownSet (g := w.heap.size + 1) w3 ⟨w.heap.size + 1, 0, none⟩ rfl _) (some_ne (by omega)), X2.setCell (p := ⟨w.heap.size + 1, 0, none⟩) (Nat.le_succ _) _, Lib.hid (fun h => by cases h), Lib.hid (fun y hy => by cases hy; exact Ht.out), by simp⟩
                    case measure => simp [lenOf, bs_size]; omega
                · have Hb := Lib.hid (decide_eq_false hb)
                  have Hbn := Lib.hid hb
                  clear hb htk
                  have hcall := rblank_is w1 _ Hb.out
                  go_wp2_with fail
                  refine hcall.mono ?_
                  rintro e w2 ⟨rfl, rfl⟩
                  clear hcall
                  have HR : RowKit.Hid (Sum.inl (k + 1) = R) := Lib.hid (by rw [← Hpf.out, ttl_no (fun h => Hbn.out (by have := h.2.2; rw [blank_bt] at this; exact of_decide_eq_true this))])
                  go_wp2_with fail
                  refine (rtitle_any _ [] (by simp)).mono ?_
                  rintro e w2 ⟨rfl, e2⟩
                  have hf : titleL [] = false := by decide
                  rw [hf]
                  have G2 := G1.ext e2
                  have P2 := P1.ext e2
                  have X2 := X1.trans e2
                  obtain ⟨p0, p1, p2, p3⟩ := id G2.1
                  obtain ⟨q0, q1, q2, q3⟩ := id P2
                  go_wp2_with fail
                  have xe := X2
                  exact bodyPost_ret (v := .tuple #[pAgg [] none 0 0, .int .i64 ((k : Int) + 1), .int .i64 1]) (by unfold pAgg; simp [results, Tryd.results12, go_sem, q0, q1]; rfl) rfl (.inl ⟨k + 1, HR.out.symm, by go_num, (xe.setCell (Nat.le_refl _) _).setCell (Nat.le_refl _) _⟩)
              · have htb : (x.take 5 == [116, 105, 116, 108, 101]) = false := by rw [beq_eq_false_iff_ne]; exact htk
                have Hn := Lib.hid htk
                clear htk
                have HR : RowKit.Hid (Sum.inl (k + 1) = R) := Lib.hid (by rw [← Hpf.out, ttl_no (fun h => Hn.out h.1)])
                go_wp2_with fail
                refine (rtitle_any _ [] (by simp)).mono ?_
                rintro e w2 ⟨rfl, e2⟩
                have hf : titleL [] = false := by decide
                rw [hf]
                have G2 := G1.ext e2
                have P2 := P1.ext e2
                have X2 := X1.trans e2
                obtain ⟨p0, p1, p2, p3⟩ := id G2.1
                obtain ⟨q0, q1, q2, q3⟩ := id P2
                go_wp2_with fail
                have xe := X2
                exact bodyPost_ret (v := .tuple #[pAgg [] none 0 0, .int .i64 ((k : Int) + 1), .int .i64 1]) (by unfold pAgg; simp [results, Tryd.results12, go_sem, q0, q1]; rfl) rfl (.inl ⟨k + 1, HR.out.symm, by go_num, (xe.setCell (Nat.le_refl _) _).setCell (Nat.le_refl _) _⟩)
            · have h5d : decide ((5 : Int) < (x.length : Int)) = false := decide_eq_false (by omega)
              have HR : RowKit.Hid (Sum.inl (k + 1) = R) := Lib.hid (by rw [← Hpf.out, ttl_no (fun h => h5 h.2.1)])
              go_wp2_with fail
              refine (rtitle_any _ [] (by simp)).mono ?_
              rintro e w2 ⟨rfl, e2⟩
              have hf : titleL [] = false := by decide
              rw [hf]
              have G2 := G1.ext e2
              have P2 := P1.ext e2
              have X2 := X1.trans e2
              obtain ⟨p0, p1, p2, p3⟩ := id G2.1
              obtain ⟨q0, q1, q2, q3⟩ := id P2
              go_wp2_with fail
              have xe := X2
              exact bodyPost_ret (v := .tuple #[pAgg [] none 0 0, .int .i64 ((k : Int) + 1), .int .i64 1]) (by unfold pAgg; simp [results, Tryd.results12, go_sem, q0, q1]; rfl) rfl (.inl ⟨k + 1, HR.out.symm, by go_num, (xe.setCell (Nat.le_refl _) _).setCell (Nat.le_refl _) _⟩)
          | some tt =>
            rw [pf_op hxe] at hpf
            have Hpf := Lib.hid hpf
            have hce2 : tt.isEmpty = false := by have := Hte.out tt rfl; cases tt <;> simp at this ⊢
            obtain ⟨p0, p1, p2, p3⟩ := id G1.1
            simp only [Option.getD_some] at p0
            have hwl : (wordsL x).length ≤ 1099511627777 := by
              have := wgo_len x []
              unfold wordsL; omega
            have Hwx : RowKit.Hid (∀ y ∈ wordsL x, y.length ≤ 1099511627776) := Lib.hid fun y hy => by
              have := wgo_each x [] y hy
              simp at this; omega
            have Hwn := Lib.hid (Hw.out hxe)
            clear hpf
            go_wp2_with fail
            clear p0 p1 p2 p3
            refine (rwords_any _ x hxl).mono ?_
            rintro e w2 ⟨A, c, base, rfl, hbase, ho, e2⟩
            have hws : Ws w2 A (wordsL x).length c (wordsL x) := ho.rd
            have G2a := G1.ext e2
            have P2a := P1.ext e2
            have X2a := X1.trans e2
            have hcall := rop_any w2 A (wordsL x).length c (wordsL x) hws Hwn.out Hwx.out hwl
            rw [show opW (wordsL x) = opL x from rfl] at hcall
            clear ho hbase hws G1 P1 X1 e2
            go_wp2_with fail
            cases hop : opL x with
            | none =>
              have hR := Hpf.out
              rw [hop] at hR
              have HR := Lib.hid hR
              clear hR Hpf
              rw [hop] at hcall
              unfold OpOf opAgg at hcall
              simp only [Option.getD_none, Option.isSome_none] at hcall
              refine hcall.mono ?_
              rintro e w3 ⟨rfl, e3⟩
              have G3 := G2a.ext e3
              have P3 := P2a.ext e3
              have X3 := X2a.trans e3
              clear hcall hop G2a P2a X2a e3
              go_upto_region 19 with fail
              generalize hV1 : World.alloc w3 _ = V1
              have eV1 : Ext w3 V1 := by subst hV1; exact Ext.alloc _ _
              have G2 := G3.ext eV1
              have P2 := P3.ext eV1
              have X2 := X3.trans eV1
              clear hV1
              obtain ⟨p0, p1, p2, p3⟩ := id G2.1
              obtain ⟨q0, q1, q2, q3⟩ := id P2
              go_wp2_with fail
              have xe := X2
              exact bodyPost_ret (v := .tuple #[pAgg [] none 0 0, .int .i64 ((k : Int) + 1), .int .i64 1]) (by unfold pAgg; simp [results, Tryd.results12, go_sem, q0, q1]; rfl) rfl (.inl ⟨k + 1, HR.out.symm, by go_num, (xe.setCell (Nat.le_refl _) _).setCell (Nat.le_refl _) _⟩)
            | some oo =>
              have hR := Hpf.out
              rw [hop] at hR
              obtain ⟨ox, oa, ob, oc⟩ := oo
              clear Hpf
              rw [hop] at hcall
              unfold OpOf opAgg at hcall
              simp only [Option.getD_some, Option.isSome_some] at hcall
              refine hcall.mono ?_
              rintro e w3 ⟨rfl, e3⟩
              have G3 := G2a.ext e3
              have P3 := P2a.ext e3
              have X3 := X2a.trans e3
              clear hcall hop G2a P2a X2a e3
              go_upto_region 19 with fail
              generalize hV1 : World.alloc w3 _ = V1
              have eV1 : Ext w3 V1 := by subst hV1; exact Ext.alloc _ _
              have G2 := G3.ext eV1
              have P2 := P3.ext eV1
              have X2 := X3.trans eV1
              have F2 : FBox V1 w3.heap.size ox oa ob oc := by subst hV1; exact FBox.new _ _ _ _ _ _ rfl
              clear hV1
              obtain ⟨p0, p1, p2, p3⟩ := id G2.1
              obtain ⟨⟨f0, f1, f2, f3⟩, -⟩ := id F2
              by_cases hfu : 64 ≤ m
              · try dsimp only at hR
                rw [if_pos (by omega)] at hR
                have HR := Lib.hid hR
                have hd1 : decide ((64 : Int) ≤ (m : Int)) = true := decide_eq_true (by omega)
                clear hR
                obtain ⟨q0, q1, q2, q3⟩ := id P2
                go_wp2_with fail
                have xe := X2
                exact bodyPost_ret (v := .tuple #[pAgg [] none 0 0, .int .i64 ((k : Int) + 1), .int .i64 1]) (by unfold pAgg; simp [results, Tryd.results12, go_sem, q0, q1]; rfl) rfl (.inl ⟨k + 1, HR.out.symm, by go_num, (xe.setCell (Nat.le_refl _) _).setCell (Nat.le_refl _) _⟩)
              · try dsimp only at hR
                rw [if_neg (by omega)] at hR
                have HR := Lib.hid hR
                have hd1 : decide ((64 : Int) ≤ (m : Int)) = false := decide_eq_false (by omega)
                have hop1 : ops.length + 1 ≤ 64 := by omega
                have Hm := Lib.hid hm
                clear hR hm
                have hVb : w.heap.size + 1 ≤ V1.heap.size := G2.lt
                go_wp2_with (at_builtin; refine wpList_append_at _ rfl _ _ 24 rfl (w.heap.size + 1) 39 i0 (.agg #[.int .i64 0, .int .i64 0, .int .i64 0, .int .i64 0]) 4 32 Tryd.underlying24 hi hz0 hz1 hz2 rfl (by decide) B m d _ rfl G2.2.1 1 (ocs (ox, oa, ob, oc)) _ (by simp) rfl rfl (by simp [ocs, Value.oneCell']) (by unfold maxLen; omega) (by omega) hVb ?_; intro B' d' w' ho' hg' hw'; obtain ⟨z0, z1, z2, z3⟩ := G2.mid hg')
                have hB2 : blk B ≠ some w.heap.size := fun e => by have := G2.2.1.blk_ge _ e; omega
                have hG5 := G2.push (o := (ox, oa, ob, oc)) hg' ho' hw'
                have hset := grownSet (g := w.heap.size + 1) w' ⟨w.heap.size + 1, 1, none⟩ rfl (.slice B' (m + 1) d')
                have hP5 := (P2.grown hg' hB2).grown hset (some_ne (by omega))
                have hX5 := G2.out (W0 := w) (by omega) X2 hg' (.slice B' (m + 1) d')
                go_roundw
                case rel => exact ⟨s', k + 1, some tt, ops ++ [(ox, oa, ob, oc)], B', m + 1, d', rfl, by go_num, by omega, HR, hG5, hP5, hX5, Lib.hid (fun h => by cases h), Hte, by simp; omega⟩
                case measure => simp [lenOf, bs_size]; omega
end Go.Proofs.YtbmgiidecidojaaDoor
