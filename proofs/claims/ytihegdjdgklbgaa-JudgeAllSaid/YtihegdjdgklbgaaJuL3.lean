/- The walk of the law JudgeAll. Printed by wip/gen/mkjal.py. -/
import Derived.Test.YtihegdjdgklbgaaJuB
import Derived.Test.YtihegdjdgklbgaaJuI
namespace Go.Proofs.Ytihegdjdgklbgaa
set_option maxRecDepth 100000
open Go.RowKit
set_option linter.unusedVariables false

theorem frontT_snoc (l : List ToldT) (x : ToldT) : frontT (l ++ [x]) = if l = [] then x.2.1 else min (frontT l) x.2.1 := by
  cases l with
  | nil => rfl
  | cons t l => simp [frontT, List.foldl_append]
theorem frontT_succ {ts : List ToldT} {x : ToldT} {i : Nat} (hx : ts[i]? = some x) : frontT (ts.take (i + 1)) = if i = 0 then x.2.1 else min (frontT (ts.take i)) x.2.1 := by
  obtain ⟨hi, rfl⟩ := List.getElem?_eq_some_iff.1 hx
  rw [List.take_succ_eq_append_getElem hi, frontT_snoc]
  by_cases h : i = 0
  · subst h; simp
  · rw [if_neg h, if_neg (by simp only [List.take_eq_nil_iff, not_or]; exact ⟨h, by intro e; subst e; simp at hi⟩)]
def jaOuter (w0 : World) (ts : List ToldT) (fv v iv : Value) (wr : World) : Prop := ∃ (i : Nat) (f : Int) (b : Bool), fv = .int .i64 f ∧ v = .bool b ∧ iv = .int .i64 (i : Nat) ∧ i ≤ ts.length ∧ f = frontT (ts.take i) ∧ (b = true ↔ PairsAg ts i) ∧ Ext w0 wr
def jaInner (w0 : World) (ts : List ToldT) (i : Nat) (x : ToldT) (v kv : Value) (wr : World) : Prop := ∃ (k : Nat) (b : Bool), v = .bool b ∧ kv = .int .i64 (k : Nat) ∧ k ≤ i ∧ (b = true ↔ PairsAg ts i ∧ RowAg ts x k) ∧ Ext w0 wr
set_option maxRecDepth 100000 in
set_option maxHeartbeats 8000000 in
theorem all_walk (w : World) (t : List UInt8) (A : Option Addr) (n c : Nat) (l : List OpT) (ht : t.length ≤ maxLen) (hl : Ro w A n c l) (_hok : ∀ o ∈ l, okO o)
    (LA : Option Addr) (ln lc : Nat) (ts : List ToldT) (h : Rt w LA ln lc ts) :
    Calls Try.prog 7 #[pAgg t A n c, .slice LA ln lc] w (Yes w) := by
  have hcut := fun W => pcut_any W t A n c 30 ht hl.max
  have hl' := hl.min_ 30
  have htl : (t.take 40).length ≤ 1099511627776 := by rw [List.length_take]; omega
  unfold pAgg at hcut ⊢
  have Hcut := Lib.hid hcut
  clear hcut hl _hok
  generalize t.take 40 = t' at *
  generalize l.take 30 = l' at *
  generalize min n 30 = n' at *
  go_enter Try.func7, Try.ntmps7
  go_wp2_with fail
  refine (begun28_any _).mono ?_
  rintro e w1 ⟨rfl, e1⟩
  have c0 := e1.cell (show (w.alloc (.cells #[.string (bs t), .slice A n c] 24)).cell? ⟨w.heap.size, 0, none⟩ = some (.string (bs t)) by go_simp)
  have c1 := e1.cell (show (w.alloc (.cells #[.string (bs t), .slice A n c] 24)).cell? ⟨w.heap.size, 1, none⟩ = some (.slice A n c) by go_simp)
  have f0 : w1.frozen? ⟨w.heap.size, 0, none⟩ = false := by rw [e1.frozen (by simp)]; go_simp
  have f1 : w1.frozen? ⟨w.heap.size, 1, none⟩ = false := by rw [e1.frozen (by simp)]; go_simp
  have x1 := (Ext.alloc w _).trans e1
  have s1 : w.heap.size < w1.heap.size := World.block_lt_of_cell? w1 _ c0
  clear e1
  go_wp2_with fail
  refine (Hcut.out _).mono ?_
  rintro e w2 ⟨rfl, e2⟩
  have c0 := e2.cell c0
  have c1 := e2.cell c1
  have f0 : w2.frozen? ⟨w.heap.size, 0, none⟩ = false := by rw [e2.frozen s1]; exact f0
  have f1 : w2.frozen? ⟨w.heap.size, 1, none⟩ = false := by rw [e2.frozen s1]; exact f1
  have x2 := x1.trans e2
  have s2 : w.heap.size < w2.heap.size := World.block_lt_of_cell? w2 _ c0
  clear e2 s1 x1
  go_wp2_with fail
  refine (cut28_any w w2 x2 LA ln lc ts h).mono ?_
  rintro e w3 ⟨QA, qn, qc, rfl, q3, e3⟩
  have hQ8 : ∀ t ∈ cutT ts, t.1.length ≤ 8 := fun t ht => by
    obtain ⟨u, _, rfl⟩ := List.mem_map.1 ht
    simp [cut1]; omega
  generalize cutT ts = Q at *
  have c0 := e3.cell c0
  have c1 := e3.cell c1
  have f0 : w3.frozen? ⟨w.heap.size, 0, none⟩ = false := by rw [e3.frozen s2]; exact f0
  have f1 : w3.frozen? ⟨w.heap.size, 1, none⟩ = false := by rw [e3.frozen s2]; exact f1
  have x3 := x2.trans e3
  have s3 : w.heap.size < w3.heap.size := World.block_lt_of_cell? w3 _ c0
  have hn := q3.rt.len
  have hmx := q3.rt.max
  unfold maxLen at hmx
  have Hn := Lib.hid hn
  clear hn h
  go_wp2_with fail
  generalize hW0 : World.setCell (World.setCell w3 _ _) _ _ = W0
  have x0 : Ext w W0 := by subst hW0; exact (x3.setCell (Nat.le_refl _) _).setCell (Nat.le_refl _) _
  have d0 : W0.cell? ⟨w.heap.size, 0, none⟩ = some (.string (bs t')) := by subst hW0; go_simp
  have d1 : W0.cell? ⟨w.heap.size, 1, none⟩ = some (.slice A n' c) := by subst hW0; go_simp
  have hQ : Rt W0 QA qn qc Q := by subst hW0; exact ((q3.keep (grown_setG _ _ _ _) (Nat.le_refl _) s2).keep (grown_setG _ _ _ _) (Nat.le_refl _) s2).rt
  clear hW0 c0 c1 f0 f1 x2 x3 s3 e3 Hcut q3
  generalize w.heap.size = bp at *
  have HQ := Lib.hid hQ
  have HQ8 := Lib.hid hQ8
  clear hQ hQ8
  go_loopw [6, 7, 8] (fun fv v iv wr => jaOuter W0 Q fv v iv wr) (fun _ _ iv _ => Q.length - (intOf iv).toNat)
  case atStart => exact ⟨0, 0, true, rfl, rfl, rfl, by omega, rfl, by simp [PairsAg.zero], Ext.refl _⟩
  case round =>
    obtain ⟨i, f, b, rfl, rfl, rfl, hi, hfr, hb, he⟩ := hrel
    have Hb := Lib.hid hb
    have Hfr := Lib.hid hfr
    clear hb hfr
    have d0 := he.cell d0
    have d1 := he.cell d1
    by_cases hlt : i < qn
    · have hd3 : decide (i < qn) = true := decide_eq_true hlt
      have hil : i < Q.length := by have := Hn.out; omega
      obtain ⟨b0, o0, PA, pn, pc, B, m, d, rfl, k0, k1, kk2, hp, hg⟩ := HQ.out.at_ hil
      have k0 := he.cell k0
      have k1 := he.cell k1
      have kk2 := he.cell kk2
      have h8 := HQ8.out _ (List.getElem_mem hil)
      have Hx := Lib.hid (show Q[i]? = some Q[i] from List.getElem?_eq_getElem hil)
      generalize Q[i] = x at *
      obtain ⟨xp, xf, xg⟩ := x
      simp only at k1 h8 hp hg
      have hix : (0 : Int) ≤ (i : Int) ∧ (i : Int) < (qn : Int) := by omega
      have hpm := hp.max
      unfold maxLen at hpm
      have hpl := hp.len
      have Hpl := Lib.hid hpl
      have Hp := Lib.hid (hp.ext he)
      have Hg := Lib.hid (hg.ext he)
      have Hro := Lib.hid (hl'.ext (x0.trans he))
      have hri := fun W (hR : Ext wr W) => right_any W t' A n' c l' htl (Hro.out.ext hR) PA pn pc xf B m d xp xg (Hp.out.ext hR) (Hg.out.ext hR) (by omega)
      unfold pAgg tAgg at hri
      by_cases hmay : 0 ≤ xf ∧ xf ≤ (pn : Int)
      · obtain ⟨kf, rfl⟩ := Int.eq_ofNat_of_zero_le hmay.1
        have hkn : kf ≤ pn := by omega
        have hkc : kf ≤ pc := by omega
        have hrt : rightT t' l' (xp, (kf : Int), xg) = (xg == gameL (foldN t' l' 0 zeroG (xp.take kf))) := by
          unfold rightT mayT
          simp
          omega
        rw [hrt] at hri
        have hfo := fun W h1 h2 => rfold_any W t' A n' c l' 0 PA kf pc (xp.take kf) zeroG htl h1 h2 zeroG_ok (by decide) (by decide) (by rw [List.length_take]; omega)
        have hok := foldN_ok t' l' (xp.take kf) 0 zeroG_ok
        generalize foldN t' l' 0 zeroG (xp.take kf) = G at *
        have hby := fun W => rbytes_any W G hok
        unfold pAgg at hfo
        have Hri := Lib.hid hri
        have Hfo := Lib.hid hfo
        have Hby := Lib.hid hby
        have d5 : decide (0 ≤ (kf : Int)) = true := decide_eq_true hmay.1
        have d6 : decide ((kf : Int) ≤ (pn : Int)) = true := decide_eq_true hmay.2
        have d7 : decide (kf ≤ pn) = true := decide_eq_true hkn
        have hkn2 : (0 : Int) ≤ (kf : Int) ∧ (kf : Int) ≤ (pc : Int) := by omega
        clear hri hfo hby hok hrt hpl hp hg hmay hlt
        go_wp2_with fail
        generalize hV : World.alloc wr _ = V
        have eV : Ext wr V := by subst hV; exact Ext.alloc _ _
        have t0 : V.cell? ⟨wr.heap.size, 0, none⟩ = some (.slice PA pn pc) := by subst hV; go_simp
        have t1 : V.cell? ⟨wr.heap.size, 1, none⟩ = some (.int .i64 (kf : Nat)) := by subst hV; go_simp
        have t2 : V.cell? ⟨wr.heap.size, 2, none⟩ = some (.slice B m d) := by subst hV; go_simp
        clear hV
        have d0 := eV.cell d0
        have d1 := eV.cell d1
        have k0 := eV.cell k0
        have k1 := eV.cell k1
        have kk2 := eV.cell kk2
        have xv := he.trans eV
        generalize wr.heap.size = bt at *
        apply wp_region_lex (R := Ext) (by kernel_rfl) (by kernel_rfl) Ext.refl (fun _ _ _ => Ext.trans) (Ext.drew _)
        repeat
          first
            | (apply lex_ex Ext.refl
               · rfl
               · intro W' hR hΦ
                 have y0 := hR.cell d0
                 have y1 := hR.cell d1
                 have y2 := hR.cell t0
                 have y3 := hR.cell t1
                 have y4 := hR.cell t2
                 have z1 := run_string_of (P := Try.prog) W' 43 9 5 Try.underlying43 Try.underlying5 Try.underlying9 B m d xg ((Hg.out.ext eV).ext hR)
                 go_simp
                 first | done | with_reducible rfl)
            | (apply lex_skip
               · rfl)
          simp only [Act.put, List.setIfInBounds_toArray, List.set_cons_zero, List.set_cons_succ]
        apply lex_callx
        · rfl
        · intro W'
          go_simp
          exact ⟨rfl, rfl⟩
        · intro W' hR hΦ
          exact (Hfo.out _ (Hro.out.ext (eV.trans hR)) ((Hp.out.ext (eV.trans hR)).take hkn)).mono fun _ _ h => h
        simp only [Act.put, List.setIfInBounds_toArray, List.set_cons_zero, List.set_cons_succ]
        apply lex_call (p := fun u W => ∃ B' d', u = .slice B' 128 d' ∧ Rb W B' 128 d' (gameL G)) (fun _ _ _ ⟨B', d', h1, h2⟩ e => ⟨B', d', h1, h2.ext e⟩)
        · rfl
        · intro W'
          go_simp
          exact ⟨rfl, rfl⟩
        · intro W' hR hΦ
          refine (Hby.out W').mono ?_
          rintro e w' ⟨B', d', rfl, h1, h2⟩
          exact ⟨_, rfl, h2, B', d', rfl, h1⟩
        intro ev
        simp only [Act.put, List.setIfInBounds_toArray, List.set_cons_zero, List.set_cons_succ]
        apply lex_ex (u := .string (bs (gameL G))) Ext.refl
        · rfl
        · intro W' hR hΦ
          obtain ⟨B', d', rfl, hr⟩ := hΦ.1 rfl
          have z1 := run_string_of (P := Try.prog) W' 43 9 5 Try.underlying43 Try.underlying5 Try.underlying9 B' 128 d' (gameL G) hr
          go_simp
          first | done | with_reducible rfl
        simp only [Act.put, List.setIfInBounds_toArray, List.set_cons_zero, List.set_cons_succ]
        repeat
          first
            | (apply lex_ex Ext.refl
               · rfl
               · intro W' hR hΦ
                 have y0 := hR.cell d0
                 have y1 := hR.cell d1
                 have y2 := hR.cell t0
                 have y3 := hR.cell t1
                 have y4 := hR.cell t2
                 go_simp
                 first | done | with_reducible rfl)
            | (apply lex_skip
               · rfl)
          simp only [Act.put, List.setIfInBounds_toArray, List.set_cons_zero, List.set_cons_succ]
        refine lex_nil ?_
        intro W5 hR5 hΦ
        clear hΦ
        have d0 := hR5.cell d0
        have d1 := hR5.cell d1
        have t0 := hR5.cell t0
        have t1 := hR5.cell t1
        have t2 := hR5.cell t2
        have k0 := hR5.cell k0
        have k1 := hR5.cell k1
        have kk2 := hR5.cell kk2
        have xr := xv.trans hR5
        have yr := eV.trans hR5
        clear hR5 xv eV
        go_wp2_with fail
        refine Calls.mono (Hri.out _ yr) ?_
        rintro e w6 ⟨rfl, e6⟩
        have d0 := e6.cell d0
        have d1 := e6.cell d1
        have t0 := e6.cell t0
        have t1 := e6.cell t1
        have t2 := e6.cell t2
        have k0 := e6.cell k0
        have k1 := e6.cell k1
        have kk2 := e6.cell kk2
        have xr := xr.trans e6
        have Hp := Lib.hid ((Hp.out.ext yr).ext e6)
        have Hg := Lib.hid ((Hg.out.ext yr).ext e6)
        clear e6 yr
        by_cases hi0 : i = 0
        · have hq0 : (i == 0) = true := by rw [beq_iff_eq]; exact hi0
          have hq1 : ((i : Int) == 0) = true := by rw [beq_iff_eq]; omega
          have Hf := Lib.hid (show (kf : Int) = frontT (Q.take (i + 1)) by rw [frontT_succ Hx.out, if_pos hi0])
          go_wp2_with fail
          go_loopw [7, 11] (fun v kv wr2 => jaInner w6 Q i (xp, (kf : Int), xg) v kv wr2) (fun _ kv _ => i - (intOf kv).toNat)
          case atStart => exact ⟨0, b, rfl, rfl, by omega, by rw [Hb.out]; simp [RowAg.zero], Ext.refl _⟩
          case round =>
            obtain ⟨k2, b', rfl, rfl, hk, hb', e2⟩ := hrel
            by_cases hki : k2 < i
            · exact absurd hki (by omega)
            · have hd4 : decide (k2 < i) = false := decide_eq_false hki
              obtain rfl : k2 = i := by omega
              have Hnx := Lib.hid (show (b' = true ↔ PairsAg Q (k2 + 1)) by rw [hb', PairsAg.succ Hx.out])
              clear hb'
              go_wp2_with fail
              go_roundw
              case rel => exact ⟨k2 + 1, _, b', rfl, rfl, by go_num, hil, Hf.out, Hnx.out, xr.trans e2⟩
              case measure => simp [intOf]; omega
        have hq0 : (i == 0) = false := by rw [beq_eq_false_iff_ne]; exact hi0
        have hq1 : ((i : Int) == 0) = false := by rw [beq_eq_false_iff_ne]; omega
        by_cases hlf : (kf : Int) < f
        · have hd5 : decide ((kf : Int) < f) = true := decide_eq_true hlf
          have Hf := Lib.hid (show (kf : Int) = frontT (Q.take (i + 1)) by rw [frontT_succ Hx.out, if_neg hi0, ← Hfr.out]; show (kf : Int) = min f (kf : Int); omega)
          go_wp2_with fail
          go_loopw [7, 11] (fun v kv wr2 => jaInner w6 Q i (xp, (kf : Int), xg) v kv wr2) (fun _ kv _ => i - (intOf kv).toNat)
          case atStart => exact ⟨0, b, rfl, rfl, by omega, by rw [Hb.out]; simp [RowAg.zero], Ext.refl _⟩
          case round =>
            obtain ⟨k2, b', rfl, rfl, hk, hb', e2⟩ := hrel
            by_cases hki : k2 < i
            · have hd4 : decide (k2 < i) = true := decide_eq_true hki
              have hkl : k2 < Q.length := by omega
              have hkq : k2 < qn := by omega
              have hix2 : (0 : Int) ≤ (k2 : Int) ∧ (k2 : Int) < (qn : Int) := by omega
              obtain ⟨b1, o1, PA', pn', pc', B', m', d', hb1, q0, q1, q2, hp', hg'⟩ := HQ.out.at_ hkl
              cases hb1
              have Hy := Lib.hid (show Q[k2]? = some Q[k2] from List.getElem?_eq_getElem hkl)
              have Hp := Lib.hid (Hp.out.ext e2)
              have Hg := Lib.hid (Hg.out.ext e2)
              have Hp' := Lib.hid (hp'.ext (xr.trans e2))
              have Hg' := Lib.hid (hg'.ext (xr.trans e2))
              clear hp' hg'
              generalize Q[k2] = y at *
              have k0 := e2.cell k0
              have k1 := e2.cell k1
              have kk2 := e2.cell kk2
              have q0 := (xr.trans e2).cell q0
              have q1 := (xr.trans e2).cell q1
              have q2 := (xr.trans e2).cell q2
              have hnext : ((b' && agreeT (xp, (kf : Int), xg) y) = true ↔ PairsAg Q i ∧ RowAg Q (xp, (kf : Int), xg) (k2 + 1)) := by
                rw [Bool.and_eq_true, hb', RowAg.succ Hy.out, and_assoc]
              cases b'
              · have Hnx := Lib.hid (show (false = true ↔ PairsAg Q i ∧ RowAg Q (xp, (kf : Int), xg) (k2 + 1)) by simpa using hnext)
                clear hnext hb'
                go_wp2_with fail
                apply wp_region_lex (R := Ext) (by kernel_rfl) (by kernel_rfl) Ext.refl (fun _ _ _ => Ext.trans) (Ext.drew _)
                repeat
                  first
                    | (apply lex_ex Ext.refl
                       · rfl
                       · intro W' hR hΦ
                         have y0 := hR.cell k0
                         have y1 := hR.cell k1
                         have y2 := hR.cell kk2
                         have y3 := hR.cell q0
                         have y4 := hR.cell q1
                         have y5 := hR.cell q2
                         go_simp
                         first | done | with_reducible rfl)
                    | (apply lex_skip
                       · rfl)
                  simp only [Act.put, List.setIfInBounds_toArray, List.set_cons_zero, List.set_cons_succ]
                refine lex_nil ?_
                intro W5 hR5 hΦ
                clear hΦ
                go_wp2_with fail
                go_roundw
                case rel => exact ⟨k2 + 1, _, rfl, by go_num, by omega, by first | exact Hnx.out | simpa using Hnx.out, e2.trans hR5⟩
                case measure => simp [intOf]; omega
              · have hag := fun W (hR : Ext _ W) => ragree_any W PA pn pc (kf : Int) B m d PA' pn' pc' y.2.1 B' m' d' xp y.1 xg y.2.2 (Hp.out.ext hR) (Hg.out.ext hR) (Hp'.out.ext hR) (Hg'.out.ext hR)
                unfold tAgg at hag
                have Hnx := Lib.hid (show (agreeT (xp, (kf : Int), xg) y = true ↔ PairsAg Q i ∧ RowAg Q (xp, (kf : Int), xg) (k2 + 1)) by simpa using hnext)
                have Hag := Lib.hid hag
                clear hnext hb' hag
                go_wp2_with fail
                apply wp_region_lex (R := Ext) (by kernel_rfl) (by kernel_rfl) Ext.refl (fun _ _ _ => Ext.trans) (Ext.drew _)
                repeat
                  first
                    | (apply lex_ex Ext.refl
                       · rfl
                       · intro W' hR hΦ
                         have y0 := hR.cell k0
                         have y1 := hR.cell k1
                         have y2 := hR.cell kk2
                         have y3 := hR.cell q0
                         have y4 := hR.cell q1
                         have y5 := hR.cell q2
                         go_simp
                         first | done | with_reducible rfl)
                    | (apply lex_skip
                       · rfl)
                  simp only [Act.put, List.setIfInBounds_toArray, List.set_cons_zero, List.set_cons_succ]
                apply lex_callx
                · rfl
                · intro W'
                  go_simp
                  exact ⟨rfl, rfl⟩
                · intro W' hR hΦ
                  exact (Hag.out _ hR).mono fun _ _ h => h
                simp only [Act.put, List.setIfInBounds_toArray, List.set_cons_zero, List.set_cons_succ]
                repeat
                  first
                    | (apply lex_ex Ext.refl
                       · rfl
                       · intro W' hR hΦ
                         have y0 := hR.cell k0
                         have y1 := hR.cell k1
                         have y2 := hR.cell kk2
                         have y3 := hR.cell q0
                         have y4 := hR.cell q1
                         have y5 := hR.cell q2
                         go_simp
                         first | done | with_reducible rfl)
                    | (apply lex_skip
                       · rfl)
                  simp only [Act.put, List.setIfInBounds_toArray, List.set_cons_zero, List.set_cons_succ]
                refine lex_nil ?_
                intro W5 hR5 hΦ
                clear hΦ
                go_wp2_with fail
                go_roundw
                case rel => exact ⟨k2 + 1, _, rfl, by go_num, by omega, by first | exact Hnx.out | simpa using Hnx.out, e2.trans hR5⟩
                case measure => simp [intOf]; omega
            · have hd4 : decide (k2 < i) = false := decide_eq_false hki
              obtain rfl : k2 = i := by omega
              have Hnx := Lib.hid (show (b' = true ↔ PairsAg Q (k2 + 1)) by rw [hb', PairsAg.succ Hx.out])
              clear hb'
              go_wp2_with fail
              go_roundw
              case rel => exact ⟨k2 + 1, _, b', rfl, rfl, by go_num, hil, Hf.out, Hnx.out, xr.trans e2⟩
              case measure => simp [intOf]; omega
        have hd5 : decide ((kf : Int) < f) = false := decide_eq_false hlf
        have Hf := Lib.hid (show f = frontT (Q.take (i + 1)) by rw [frontT_succ Hx.out, if_neg hi0, ← Hfr.out]; show f = min f (kf : Int); omega)
        go_wp2_with fail
        go_loopw [7, 11] (fun v kv wr2 => jaInner w6 Q i (xp, (kf : Int), xg) v kv wr2) (fun _ kv _ => i - (intOf kv).toNat)
        case atStart => exact ⟨0, b, rfl, rfl, by omega, by rw [Hb.out]; simp [RowAg.zero], Ext.refl _⟩
        case round =>
          obtain ⟨k2, b', rfl, rfl, hk, hb', e2⟩ := hrel
          by_cases hki : k2 < i
          · have hd4 : decide (k2 < i) = true := decide_eq_true hki
            have hkl : k2 < Q.length := by omega
            have hkq : k2 < qn := by omega
            have hix2 : (0 : Int) ≤ (k2 : Int) ∧ (k2 : Int) < (qn : Int) := by omega
            obtain ⟨b1, o1, PA', pn', pc', B', m', d', hb1, q0, q1, q2, hp', hg'⟩ := HQ.out.at_ hkl
            cases hb1
            have Hy := Lib.hid (show Q[k2]? = some Q[k2] from List.getElem?_eq_getElem hkl)
            have Hp := Lib.hid (Hp.out.ext e2)
            have Hg := Lib.hid (Hg.out.ext e2)
            have Hp' := Lib.hid (hp'.ext (xr.trans e2))
            have Hg' := Lib.hid (hg'.ext (xr.trans e2))
            clear hp' hg'
            generalize Q[k2] = y at *
            have k0 := e2.cell k0
            have k1 := e2.cell k1
            have kk2 := e2.cell kk2
            have q0 := (xr.trans e2).cell q0
            have q1 := (xr.trans e2).cell q1
            have q2 := (xr.trans e2).cell q2
            have hnext : ((b' && agreeT (xp, (kf : Int), xg) y) = true ↔ PairsAg Q i ∧ RowAg Q (xp, (kf : Int), xg) (k2 + 1)) := by
              rw [Bool.and_eq_true, hb', RowAg.succ Hy.out, and_assoc]
            cases b'
            · have Hnx := Lib.hid (show (false = true ↔ PairsAg Q i ∧ RowAg Q (xp, (kf : Int), xg) (k2 + 1)) by simpa using hnext)
              clear hnext hb'
              go_wp2_with fail
              apply wp_region_lex (R := Ext) (by kernel_rfl) (by kernel_rfl) Ext.refl (fun _ _ _ => Ext.trans) (Ext.drew _)
              repeat
                first
                  | (apply lex_ex Ext.refl
                     · rfl
                     · intro W' hR hΦ
                       have y0 := hR.cell k0
                       have y1 := hR.cell k1
                       have y2 := hR.cell kk2
                       have y3 := hR.cell q0
                       have y4 := hR.cell q1
                       have y5 := hR.cell q2
                       go_simp
                       first | done | with_reducible rfl)
                  | (apply lex_skip
                     · rfl)
                simp only [Act.put, List.setIfInBounds_toArray, List.set_cons_zero, List.set_cons_succ]
              refine lex_nil ?_
              intro W5 hR5 hΦ
              clear hΦ
              go_wp2_with fail
              go_roundw
              case rel => exact ⟨k2 + 1, _, rfl, by go_num, by omega, by first | exact Hnx.out | simpa using Hnx.out, e2.trans hR5⟩
              case measure => simp [intOf]; omega
            · have hag := fun W (hR : Ext _ W) => ragree_any W PA pn pc (kf : Int) B m d PA' pn' pc' y.2.1 B' m' d' xp y.1 xg y.2.2 (Hp.out.ext hR) (Hg.out.ext hR) (Hp'.out.ext hR) (Hg'.out.ext hR)
              unfold tAgg at hag
              have Hnx := Lib.hid (show (agreeT (xp, (kf : Int), xg) y = true ↔ PairsAg Q i ∧ RowAg Q (xp, (kf : Int), xg) (k2 + 1)) by simpa using hnext)
              have Hag := Lib.hid hag
              clear hnext hb' hag
              go_wp2_with fail
              apply wp_region_lex (R := Ext) (by kernel_rfl) (by kernel_rfl) Ext.refl (fun _ _ _ => Ext.trans) (Ext.drew _)
              repeat
                first
                  | (apply lex_ex Ext.refl
                     · rfl
                     · intro W' hR hΦ
                       have y0 := hR.cell k0
                       have y1 := hR.cell k1
                       have y2 := hR.cell kk2
                       have y3 := hR.cell q0
                       have y4 := hR.cell q1
                       have y5 := hR.cell q2
                       go_simp
                       first | done | with_reducible rfl)
                  | (apply lex_skip
                     · rfl)
                simp only [Act.put, List.setIfInBounds_toArray, List.set_cons_zero, List.set_cons_succ]
              apply lex_callx
              · rfl
              · intro W'
                go_simp
                exact ⟨rfl, rfl⟩
              · intro W' hR hΦ
                exact (Hag.out _ hR).mono fun _ _ h => h
              simp only [Act.put, List.setIfInBounds_toArray, List.set_cons_zero, List.set_cons_succ]
              repeat
                first
                  | (apply lex_ex Ext.refl
                     · rfl
                     · intro W' hR hΦ
                       have y0 := hR.cell k0
                       have y1 := hR.cell k1
                       have y2 := hR.cell kk2
                       have y3 := hR.cell q0
                       have y4 := hR.cell q1
                       have y5 := hR.cell q2
                       go_simp
                       first | done | with_reducible rfl)
                  | (apply lex_skip
                     · rfl)
                simp only [Act.put, List.setIfInBounds_toArray, List.set_cons_zero, List.set_cons_succ]
              refine lex_nil ?_
              intro W5 hR5 hΦ
              clear hΦ
              go_wp2_with fail
              go_roundw
              case rel => exact ⟨k2 + 1, _, rfl, by go_num, by omega, by first | exact Hnx.out | simpa using Hnx.out, e2.trans hR5⟩
              case measure => simp [intOf]; omega
          · have hd4 : decide (k2 < i) = false := decide_eq_false hki
            obtain rfl : k2 = i := by omega
            have Hnx := Lib.hid (show (b' = true ↔ PairsAg Q (k2 + 1)) by rw [hb', PairsAg.succ Hx.out])
            clear hb'
            go_wp2_with fail
            go_roundw
            case rel => exact ⟨k2 + 1, _, b', rfl, rfl, by go_num, hil, Hf.out, Hnx.out, xr.trans e2⟩
            case measure => simp [intOf]; omega
      · have hrt : rightT t' l' (xp, xf, xg) = false := by
          have hf : mayT (xp, xf, xg) = false := by
            unfold mayT
            rw [← hpl]
            simp only [Bool.and_eq_false_iff, decide_eq_false_iff_not]
            omega
          unfold rightT
          rw [hf]; rfl
        rw [hrt] at hri
        have Hri := Lib.hid hri
        clear hri hrt hpl hp hg hlt
        by_cases hm0 : 0 ≤ xf
        · have d5 : decide (0 ≤ xf) = true := decide_eq_true hm0
          have d6 : decide (xf ≤ (pn : Int)) = false := decide_eq_false (fun h => hmay ⟨hm0, h⟩)
          clear hmay
          have a0 : (wr.alloc (.cells #[.slice PA pn pc, .int .i64 xf, .slice B m d] 51)).cell? ⟨bp, 0, none⟩ = some (.string (bs t')) := (Ext.alloc wr _).cell d0
          have a1 : (wr.alloc (.cells #[.slice PA pn pc, .int .i64 xf, .slice B m d] 51)).cell? ⟨bp, 1, none⟩ = some (.slice A n' c) := (Ext.alloc wr _).cell d1
          go_wp2_with fail
          generalize hV : World.alloc wr _ = V at *
          have eV : Ext wr V := by subst hV; exact Ext.alloc _ _
          have t0 : V.cell? ⟨wr.heap.size, 0, none⟩ = some (.slice PA pn pc) := by subst hV; go_simp
          have t1 : V.cell? ⟨wr.heap.size, 1, none⟩ = some (.int .i64 xf) := by subst hV; go_simp
          have t2 : V.cell? ⟨wr.heap.size, 2, none⟩ = some (.slice B m d) := by subst hV; go_simp
          clear hV a0 a1
          have d0 := eV.cell d0
          have d1 := eV.cell d1
          have k0 := eV.cell k0
          have k1 := eV.cell k1
          have kk2 := eV.cell kk2
          have xr := he.trans eV
          have yr := eV
          generalize wr.heap.size = bt at *
          refine Calls.mono (Hri.out _ yr) ?_
          rintro e w6 ⟨rfl, e6⟩
          have d0 := e6.cell d0
          have d1 := e6.cell d1
          have t0 := e6.cell t0
          have t1 := e6.cell t1
          have t2 := e6.cell t2
          have k0 := e6.cell k0
          have k1 := e6.cell k1
          have kk2 := e6.cell kk2
          have xr := xr.trans e6
          have Hp := Lib.hid ((Hp.out.ext yr).ext e6)
          have Hg := Lib.hid ((Hg.out.ext yr).ext e6)
          clear e6 yr
          by_cases hi0 : i = 0
          · have hq0 : (i == 0) = true := by rw [beq_iff_eq]; exact hi0
            have hq1 : ((i : Int) == 0) = true := by rw [beq_iff_eq]; omega
            have Hf := Lib.hid (show xf = frontT (Q.take (i + 1)) by rw [frontT_succ Hx.out, if_pos hi0])
            go_wp2_with fail
            go_loopw [7, 11] (fun v kv wr2 => jaInner w6 Q i (xp, xf, xg) v kv wr2) (fun _ kv _ => i - (intOf kv).toNat)
            case atStart => exact ⟨0, b, rfl, rfl, by omega, by rw [Hb.out]; simp [RowAg.zero], Ext.refl _⟩
            case round =>
              obtain ⟨k2, b', rfl, rfl, hk, hb', e2⟩ := hrel
              by_cases hki : k2 < i
              · exact absurd hki (by omega)
              · have hd4 : decide (k2 < i) = false := decide_eq_false hki
                obtain rfl : k2 = i := by omega
                have Hnx := Lib.hid (show (b' = true ↔ PairsAg Q (k2 + 1)) by rw [hb', PairsAg.succ Hx.out])
                clear hb'
                go_wp2_with fail
                go_roundw
                case rel => exact ⟨k2 + 1, _, b', rfl, rfl, by go_num, hil, Hf.out, Hnx.out, xr.trans e2⟩
                case measure => simp [intOf]; omega
          have hq0 : (i == 0) = false := by rw [beq_eq_false_iff_ne]; exact hi0
          have hq1 : ((i : Int) == 0) = false := by rw [beq_eq_false_iff_ne]; omega
          by_cases hlf : xf < f
          · have hd5 : decide (xf < f) = true := decide_eq_true hlf
            have Hf := Lib.hid (show xf = frontT (Q.take (i + 1)) by rw [frontT_succ Hx.out, if_neg hi0, ← Hfr.out]; show xf = min f xf; omega)
            go_wp2_with fail
            go_loopw [7, 11] (fun v kv wr2 => jaInner w6 Q i (xp, xf, xg) v kv wr2) (fun _ kv _ => i - (intOf kv).toNat)
            case atStart => exact ⟨0, b, rfl, rfl, by omega, by rw [Hb.out]; simp [RowAg.zero], Ext.refl _⟩
            case round =>
              obtain ⟨k2, b', rfl, rfl, hk, hb', e2⟩ := hrel
              by_cases hki : k2 < i
              · have hd4 : decide (k2 < i) = true := decide_eq_true hki
                have hkl : k2 < Q.length := by omega
                have hkq : k2 < qn := by omega
                have hix2 : (0 : Int) ≤ (k2 : Int) ∧ (k2 : Int) < (qn : Int) := by omega
                obtain ⟨b1, o1, PA', pn', pc', B', m', d', hb1, q0, q1, q2, hp', hg'⟩ := HQ.out.at_ hkl
                cases hb1
                have Hy := Lib.hid (show Q[k2]? = some Q[k2] from List.getElem?_eq_getElem hkl)
                have Hp := Lib.hid (Hp.out.ext e2)
                have Hg := Lib.hid (Hg.out.ext e2)
                have Hp' := Lib.hid (hp'.ext (xr.trans e2))
                have Hg' := Lib.hid (hg'.ext (xr.trans e2))
                clear hp' hg'
                generalize Q[k2] = y at *
                have k0 := e2.cell k0
                have k1 := e2.cell k1
                have kk2 := e2.cell kk2
                have q0 := (xr.trans e2).cell q0
                have q1 := (xr.trans e2).cell q1
                have q2 := (xr.trans e2).cell q2
                have hnext : ((b' && agreeT (xp, xf, xg) y) = true ↔ PairsAg Q i ∧ RowAg Q (xp, xf, xg) (k2 + 1)) := by
                  rw [Bool.and_eq_true, hb', RowAg.succ Hy.out, and_assoc]
                cases b'
                · have Hnx := Lib.hid (show (false = true ↔ PairsAg Q i ∧ RowAg Q (xp, xf, xg) (k2 + 1)) by simpa using hnext)
                  clear hnext hb'
                  go_wp2_with fail
                  apply wp_region_lex (R := Ext) (by kernel_rfl) (by kernel_rfl) Ext.refl (fun _ _ _ => Ext.trans) (Ext.drew _)
                  repeat
                    first
                      | (apply lex_ex Ext.refl
                         · rfl
                         · intro W' hR hΦ
                           have y0 := hR.cell k0
                           have y1 := hR.cell k1
                           have y2 := hR.cell kk2
                           have y3 := hR.cell q0
                           have y4 := hR.cell q1
                           have y5 := hR.cell q2
                           go_simp
                           first | done | with_reducible rfl)
                      | (apply lex_skip
                         · rfl)
                    simp only [Act.put, List.setIfInBounds_toArray, List.set_cons_zero, List.set_cons_succ]
                  refine lex_nil ?_
                  intro W5 hR5 hΦ
                  clear hΦ
                  go_wp2_with fail
                  go_roundw
                  case rel => exact ⟨k2 + 1, _, rfl, by go_num, by omega, by first | exact Hnx.out | simpa using Hnx.out, e2.trans hR5⟩
                  case measure => simp [intOf]; omega
                · have hag := fun W (hR : Ext _ W) => ragree_any W PA pn pc xf B m d PA' pn' pc' y.2.1 B' m' d' xp y.1 xg y.2.2 (Hp.out.ext hR) (Hg.out.ext hR) (Hp'.out.ext hR) (Hg'.out.ext hR)
                  unfold tAgg at hag
                  have Hnx := Lib.hid (show (agreeT (xp, xf, xg) y = true ↔ PairsAg Q i ∧ RowAg Q (xp, xf, xg) (k2 + 1)) by simpa using hnext)
                  have Hag := Lib.hid hag
                  clear hnext hb' hag
                  go_wp2_with fail
                  apply wp_region_lex (R := Ext) (by kernel_rfl) (by kernel_rfl) Ext.refl (fun _ _ _ => Ext.trans) (Ext.drew _)
                  repeat
                    first
                      | (apply lex_ex Ext.refl
                         · rfl
                         · intro W' hR hΦ
                           have y0 := hR.cell k0
                           have y1 := hR.cell k1
                           have y2 := hR.cell kk2
                           have y3 := hR.cell q0
                           have y4 := hR.cell q1
                           have y5 := hR.cell q2
                           go_simp
                           first | done | with_reducible rfl)
                      | (apply lex_skip
                         · rfl)
                    simp only [Act.put, List.setIfInBounds_toArray, List.set_cons_zero, List.set_cons_succ]
                  apply lex_callx
                  · rfl
                  · intro W'
                    go_simp
                    exact ⟨rfl, rfl⟩
                  · intro W' hR hΦ
                    exact (Hag.out _ hR).mono fun _ _ h => h
                  simp only [Act.put, List.setIfInBounds_toArray, List.set_cons_zero, List.set_cons_succ]
                  repeat
                    first
                      | (apply lex_ex Ext.refl
                         · rfl
                         · intro W' hR hΦ
                           have y0 := hR.cell k0
                           have y1 := hR.cell k1
                           have y2 := hR.cell kk2
                           have y3 := hR.cell q0
                           have y4 := hR.cell q1
                           have y5 := hR.cell q2
                           go_simp
                           first | done | with_reducible rfl)
                      | (apply lex_skip
                         · rfl)
                    simp only [Act.put, List.setIfInBounds_toArray, List.set_cons_zero, List.set_cons_succ]
                  refine lex_nil ?_
                  intro W5 hR5 hΦ
                  clear hΦ
                  go_wp2_with fail
                  go_roundw
                  case rel => exact ⟨k2 + 1, _, rfl, by go_num, by omega, by first | exact Hnx.out | simpa using Hnx.out, e2.trans hR5⟩
                  case measure => simp [intOf]; omega
              · have hd4 : decide (k2 < i) = false := decide_eq_false hki
                obtain rfl : k2 = i := by omega
                have Hnx := Lib.hid (show (b' = true ↔ PairsAg Q (k2 + 1)) by rw [hb', PairsAg.succ Hx.out])
                clear hb'
                go_wp2_with fail
                go_roundw
                case rel => exact ⟨k2 + 1, _, b', rfl, rfl, by go_num, hil, Hf.out, Hnx.out, xr.trans e2⟩
                case measure => simp [intOf]; omega
          have hd5 : decide (xf < f) = false := decide_eq_false hlf
          have Hf := Lib.hid (show f = frontT (Q.take (i + 1)) by rw [frontT_succ Hx.out, if_neg hi0, ← Hfr.out]; show f = min f xf; omega)
          go_wp2_with fail
          go_loopw [7, 11] (fun v kv wr2 => jaInner w6 Q i (xp, xf, xg) v kv wr2) (fun _ kv _ => i - (intOf kv).toNat)
          case atStart => exact ⟨0, b, rfl, rfl, by omega, by rw [Hb.out]; simp [RowAg.zero], Ext.refl _⟩
          case round =>
            obtain ⟨k2, b', rfl, rfl, hk, hb', e2⟩ := hrel
            by_cases hki : k2 < i
            · have hd4 : decide (k2 < i) = true := decide_eq_true hki
              have hkl : k2 < Q.length := by omega
              have hkq : k2 < qn := by omega
              have hix2 : (0 : Int) ≤ (k2 : Int) ∧ (k2 : Int) < (qn : Int) := by omega
              obtain ⟨b1, o1, PA', pn', pc', B', m', d', hb1, q0, q1, q2, hp', hg'⟩ := HQ.out.at_ hkl
              cases hb1
              have Hy := Lib.hid (show Q[k2]? = some Q[k2] from List.getElem?_eq_getElem hkl)
              have Hp := Lib.hid (Hp.out.ext e2)
              have Hg := Lib.hid (Hg.out.ext e2)
              have Hp' := Lib.hid (hp'.ext (xr.trans e2))
              have Hg' := Lib.hid (hg'.ext (xr.trans e2))
              clear hp' hg'
              generalize Q[k2] = y at *
              have k0 := e2.cell k0
              have k1 := e2.cell k1
              have kk2 := e2.cell kk2
              have q0 := (xr.trans e2).cell q0
              have q1 := (xr.trans e2).cell q1
              have q2 := (xr.trans e2).cell q2
              have hnext : ((b' && agreeT (xp, xf, xg) y) = true ↔ PairsAg Q i ∧ RowAg Q (xp, xf, xg) (k2 + 1)) := by
                rw [Bool.and_eq_true, hb', RowAg.succ Hy.out, and_assoc]
              cases b'
              · have Hnx := Lib.hid (show (false = true ↔ PairsAg Q i ∧ RowAg Q (xp, xf, xg) (k2 + 1)) by simpa using hnext)
                clear hnext hb'
                go_wp2_with fail
                apply wp_region_lex (R := Ext) (by kernel_rfl) (by kernel_rfl) Ext.refl (fun _ _ _ => Ext.trans) (Ext.drew _)
                repeat
                  first
                    | (apply lex_ex Ext.refl
                       · rfl
                       · intro W' hR hΦ
                         have y0 := hR.cell k0
                         have y1 := hR.cell k1
                         have y2 := hR.cell kk2
                         have y3 := hR.cell q0
                         have y4 := hR.cell q1
                         have y5 := hR.cell q2
                         go_simp
                         first | done | with_reducible rfl)
                    | (apply lex_skip
                       · rfl)
                  simp only [Act.put, List.setIfInBounds_toArray, List.set_cons_zero, List.set_cons_succ]
                refine lex_nil ?_
                intro W5 hR5 hΦ
                clear hΦ
                go_wp2_with fail
                go_roundw
                case rel => exact ⟨k2 + 1, _, rfl, by go_num, by omega, by first | exact Hnx.out | simpa using Hnx.out, e2.trans hR5⟩
                case measure => simp [intOf]; omega
              · have hag := fun W (hR : Ext _ W) => ragree_any W PA pn pc xf B m d PA' pn' pc' y.2.1 B' m' d' xp y.1 xg y.2.2 (Hp.out.ext hR) (Hg.out.ext hR) (Hp'.out.ext hR) (Hg'.out.ext hR)
                unfold tAgg at hag
                have Hnx := Lib.hid (show (agreeT (xp, xf, xg) y = true ↔ PairsAg Q i ∧ RowAg Q (xp, xf, xg) (k2 + 1)) by simpa using hnext)
                have Hag := Lib.hid hag
                clear hnext hb' hag
                go_wp2_with fail
                apply wp_region_lex (R := Ext) (by kernel_rfl) (by kernel_rfl) Ext.refl (fun _ _ _ => Ext.trans) (Ext.drew _)
                repeat
                  first
                    | (apply lex_ex Ext.refl
                       · rfl
                       · intro W' hR hΦ
                         have y0 := hR.cell k0
                         have y1 := hR.cell k1
                         have y2 := hR.cell kk2
                         have y3 := hR.cell q0
                         have y4 := hR.cell q1
                         have y5 := hR.cell q2
                         go_simp
                         first | done | with_reducible rfl)
                    | (apply lex_skip
                       · rfl)
                  simp only [Act.put, List.setIfInBounds_toArray, List.set_cons_zero, List.set_cons_succ]
                apply lex_callx
                · rfl
                · intro W'
                  go_simp
                  exact ⟨rfl, rfl⟩
                · intro W' hR hΦ
                  exact (Hag.out _ hR).mono fun _ _ h => h
                simp only [Act.put, List.setIfInBounds_toArray, List.set_cons_zero, List.set_cons_succ]
                repeat
                  first
                    | (apply lex_ex Ext.refl
                       · rfl
                       · intro W' hR hΦ
                         have y0 := hR.cell k0
                         have y1 := hR.cell k1
                         have y2 := hR.cell kk2
                         have y3 := hR.cell q0
                         have y4 := hR.cell q1
                         have y5 := hR.cell q2
                         go_simp
                         first | done | with_reducible rfl)
                    | (apply lex_skip
                       · rfl)
                  simp only [Act.put, List.setIfInBounds_toArray, List.set_cons_zero, List.set_cons_succ]
                refine lex_nil ?_
                intro W5 hR5 hΦ
                clear hΦ
                go_wp2_with fail
                go_roundw
                case rel => exact ⟨k2 + 1, _, rfl, by go_num, by omega, by first | exact Hnx.out | simpa using Hnx.out, e2.trans hR5⟩
                case measure => simp [intOf]; omega
            · have hd4 : decide (k2 < i) = false := decide_eq_false hki
              obtain rfl : k2 = i := by omega
              have Hnx := Lib.hid (show (b' = true ↔ PairsAg Q (k2 + 1)) by rw [hb', PairsAg.succ Hx.out])
              clear hb'
              go_wp2_with fail
              go_roundw
              case rel => exact ⟨k2 + 1, _, b', rfl, rfl, by go_num, hil, Hf.out, Hnx.out, xr.trans e2⟩
              case measure => simp [intOf]; omega
        · have d5 : decide (0 ≤ xf) = false := decide_eq_false hm0
          clear hmay
          have a0 : (wr.alloc (.cells #[.slice PA pn pc, .int .i64 xf, .slice B m d] 51)).cell? ⟨bp, 0, none⟩ = some (.string (bs t')) := (Ext.alloc wr _).cell d0
          have a1 : (wr.alloc (.cells #[.slice PA pn pc, .int .i64 xf, .slice B m d] 51)).cell? ⟨bp, 1, none⟩ = some (.slice A n' c) := (Ext.alloc wr _).cell d1
          go_wp2_with fail
          generalize hV : World.alloc wr _ = V at *
          have eV : Ext wr V := by subst hV; exact Ext.alloc _ _
          have t0 : V.cell? ⟨wr.heap.size, 0, none⟩ = some (.slice PA pn pc) := by subst hV; go_simp
          have t1 : V.cell? ⟨wr.heap.size, 1, none⟩ = some (.int .i64 xf) := by subst hV; go_simp
          have t2 : V.cell? ⟨wr.heap.size, 2, none⟩ = some (.slice B m d) := by subst hV; go_simp
          clear hV a0 a1
          have d0 := eV.cell d0
          have d1 := eV.cell d1
          have k0 := eV.cell k0
          have k1 := eV.cell k1
          have kk2 := eV.cell kk2
          have xr := he.trans eV
          have yr := eV
          generalize wr.heap.size = bt at *
          refine Calls.mono (Hri.out _ yr) ?_
          rintro e w6 ⟨rfl, e6⟩
          have d0 := e6.cell d0
          have d1 := e6.cell d1
          have t0 := e6.cell t0
          have t1 := e6.cell t1
          have t2 := e6.cell t2
          have k0 := e6.cell k0
          have k1 := e6.cell k1
          have kk2 := e6.cell kk2
          have xr := xr.trans e6
          have Hp := Lib.hid ((Hp.out.ext yr).ext e6)
          have Hg := Lib.hid ((Hg.out.ext yr).ext e6)
          clear e6 yr
          by_cases hi0 : i = 0
          · have hq0 : (i == 0) = true := by rw [beq_iff_eq]; exact hi0
            have hq1 : ((i : Int) == 0) = true := by rw [beq_iff_eq]; omega
            have Hf := Lib.hid (show xf = frontT (Q.take (i + 1)) by rw [frontT_succ Hx.out, if_pos hi0])
            go_wp2_with fail
            go_loopw [7, 11] (fun v kv wr2 => jaInner w6 Q i (xp, xf, xg) v kv wr2) (fun _ kv _ => i - (intOf kv).toNat)
            case atStart => exact ⟨0, b, rfl, rfl, by omega, by rw [Hb.out]; simp [RowAg.zero], Ext.refl _⟩
            case round =>
              obtain ⟨k2, b', rfl, rfl, hk, hb', e2⟩ := hrel
              by_cases hki : k2 < i
              · exact absurd hki (by omega)
              · have hd4 : decide (k2 < i) = false := decide_eq_false hki
                obtain rfl : k2 = i := by omega
                have Hnx := Lib.hid (show (b' = true ↔ PairsAg Q (k2 + 1)) by rw [hb', PairsAg.succ Hx.out])
                clear hb'
                go_wp2_with fail
                go_roundw
                case rel => exact ⟨k2 + 1, _, b', rfl, rfl, by go_num, hil, Hf.out, Hnx.out, xr.trans e2⟩
                case measure => simp [intOf]; omega
          have hq0 : (i == 0) = false := by rw [beq_eq_false_iff_ne]; exact hi0
          have hq1 : ((i : Int) == 0) = false := by rw [beq_eq_false_iff_ne]; omega
          by_cases hlf : xf < f
          · have hd5 : decide (xf < f) = true := decide_eq_true hlf
            have Hf := Lib.hid (show xf = frontT (Q.take (i + 1)) by rw [frontT_succ Hx.out, if_neg hi0, ← Hfr.out]; show xf = min f xf; omega)
            go_wp2_with fail
            go_loopw [7, 11] (fun v kv wr2 => jaInner w6 Q i (xp, xf, xg) v kv wr2) (fun _ kv _ => i - (intOf kv).toNat)
            case atStart => exact ⟨0, b, rfl, rfl, by omega, by rw [Hb.out]; simp [RowAg.zero], Ext.refl _⟩
            case round =>
              obtain ⟨k2, b', rfl, rfl, hk, hb', e2⟩ := hrel
              by_cases hki : k2 < i
              · have hd4 : decide (k2 < i) = true := decide_eq_true hki
                have hkl : k2 < Q.length := by omega
                have hkq : k2 < qn := by omega
                have hix2 : (0 : Int) ≤ (k2 : Int) ∧ (k2 : Int) < (qn : Int) := by omega
                obtain ⟨b1, o1, PA', pn', pc', B', m', d', hb1, q0, q1, q2, hp', hg'⟩ := HQ.out.at_ hkl
                cases hb1
                have Hy := Lib.hid (show Q[k2]? = some Q[k2] from List.getElem?_eq_getElem hkl)
                have Hp := Lib.hid (Hp.out.ext e2)
                have Hg := Lib.hid (Hg.out.ext e2)
                have Hp' := Lib.hid (hp'.ext (xr.trans e2))
                have Hg' := Lib.hid (hg'.ext (xr.trans e2))
                clear hp' hg'
                generalize Q[k2] = y at *
                have k0 := e2.cell k0
                have k1 := e2.cell k1
                have kk2 := e2.cell kk2
                have q0 := (xr.trans e2).cell q0
                have q1 := (xr.trans e2).cell q1
                have q2 := (xr.trans e2).cell q2
                have hnext : ((b' && agreeT (xp, xf, xg) y) = true ↔ PairsAg Q i ∧ RowAg Q (xp, xf, xg) (k2 + 1)) := by
                  rw [Bool.and_eq_true, hb', RowAg.succ Hy.out, and_assoc]
                cases b'
                · have Hnx := Lib.hid (show (false = true ↔ PairsAg Q i ∧ RowAg Q (xp, xf, xg) (k2 + 1)) by simpa using hnext)
                  clear hnext hb'
                  go_wp2_with fail
                  apply wp_region_lex (R := Ext) (by kernel_rfl) (by kernel_rfl) Ext.refl (fun _ _ _ => Ext.trans) (Ext.drew _)
                  repeat
                    first
                      | (apply lex_ex Ext.refl
                         · rfl
                         · intro W' hR hΦ
                           have y0 := hR.cell k0
                           have y1 := hR.cell k1
                           have y2 := hR.cell kk2
                           have y3 := hR.cell q0
                           have y4 := hR.cell q1
                           have y5 := hR.cell q2
                           go_simp
                           first | done | with_reducible rfl)
                      | (apply lex_skip
                         · rfl)
                    simp only [Act.put, List.setIfInBounds_toArray, List.set_cons_zero, List.set_cons_succ]
                  refine lex_nil ?_
                  intro W5 hR5 hΦ
                  clear hΦ
                  go_wp2_with fail
                  go_roundw
                  case rel => exact ⟨k2 + 1, _, rfl, by go_num, by omega, by first | exact Hnx.out | simpa using Hnx.out, e2.trans hR5⟩
                  case measure => simp [intOf]; omega
                · have hag := fun W (hR : Ext _ W) => ragree_any W PA pn pc xf B m d PA' pn' pc' y.2.1 B' m' d' xp y.1 xg y.2.2 (Hp.out.ext hR) (Hg.out.ext hR) (Hp'.out.ext hR) (Hg'.out.ext hR)
                  unfold tAgg at hag
                  have Hnx := Lib.hid (show (agreeT (xp, xf, xg) y = true ↔ PairsAg Q i ∧ RowAg Q (xp, xf, xg) (k2 + 1)) by simpa using hnext)
                  have Hag := Lib.hid hag
                  clear hnext hb' hag
                  go_wp2_with fail
                  apply wp_region_lex (R := Ext) (by kernel_rfl) (by kernel_rfl) Ext.refl (fun _ _ _ => Ext.trans) (Ext.drew _)
                  repeat
                    first
                      | (apply lex_ex Ext.refl
                         · rfl
                         · intro W' hR hΦ
                           have y0 := hR.cell k0
                           have y1 := hR.cell k1
                           have y2 := hR.cell kk2
                           have y3 := hR.cell q0
                           have y4 := hR.cell q1
                           have y5 := hR.cell q2
                           go_simp
                           first | done | with_reducible rfl)
                      | (apply lex_skip
                         · rfl)
                    simp only [Act.put, List.setIfInBounds_toArray, List.set_cons_zero, List.set_cons_succ]
                  apply lex_callx
                  · rfl
                  · intro W'
                    go_simp
                    exact ⟨rfl, rfl⟩
                  · intro W' hR hΦ
                    exact (Hag.out _ hR).mono fun _ _ h => h
                  simp only [Act.put, List.setIfInBounds_toArray, List.set_cons_zero, List.set_cons_succ]
                  repeat
                    first
                      | (apply lex_ex Ext.refl
                         · rfl
                         · intro W' hR hΦ
                           have y0 := hR.cell k0
                           have y1 := hR.cell k1
                           have y2 := hR.cell kk2
                           have y3 := hR.cell q0
                           have y4 := hR.cell q1
                           have y5 := hR.cell q2
                           go_simp
                           first | done | with_reducible rfl)
                      | (apply lex_skip
                         · rfl)
                    simp only [Act.put, List.setIfInBounds_toArray, List.set_cons_zero, List.set_cons_succ]
                  refine lex_nil ?_
                  intro W5 hR5 hΦ
                  clear hΦ
                  go_wp2_with fail
                  go_roundw
                  case rel => exact ⟨k2 + 1, _, rfl, by go_num, by omega, by first | exact Hnx.out | simpa using Hnx.out, e2.trans hR5⟩
                  case measure => simp [intOf]; omega
              · have hd4 : decide (k2 < i) = false := decide_eq_false hki
                obtain rfl : k2 = i := by omega
                have Hnx := Lib.hid (show (b' = true ↔ PairsAg Q (k2 + 1)) by rw [hb', PairsAg.succ Hx.out])
                clear hb'
                go_wp2_with fail
                go_roundw
                case rel => exact ⟨k2 + 1, _, b', rfl, rfl, by go_num, hil, Hf.out, Hnx.out, xr.trans e2⟩
                case measure => simp [intOf]; omega
          have hd5 : decide (xf < f) = false := decide_eq_false hlf
          have Hf := Lib.hid (show f = frontT (Q.take (i + 1)) by rw [frontT_succ Hx.out, if_neg hi0, ← Hfr.out]; show f = min f xf; omega)
          go_wp2_with fail
          go_loopw [7, 11] (fun v kv wr2 => jaInner w6 Q i (xp, xf, xg) v kv wr2) (fun _ kv _ => i - (intOf kv).toNat)
          case atStart => exact ⟨0, b, rfl, rfl, by omega, by rw [Hb.out]; simp [RowAg.zero], Ext.refl _⟩
          case round =>
            obtain ⟨k2, b', rfl, rfl, hk, hb', e2⟩ := hrel
            by_cases hki : k2 < i
            · have hd4 : decide (k2 < i) = true := decide_eq_true hki
              have hkl : k2 < Q.length := by omega
              have hkq : k2 < qn := by omega
              have hix2 : (0 : Int) ≤ (k2 : Int) ∧ (k2 : Int) < (qn : Int) := by omega
              obtain ⟨b1, o1, PA', pn', pc', B', m', d', hb1, q0, q1, q2, hp', hg'⟩ := HQ.out.at_ hkl
              cases hb1
              have Hy := Lib.hid (show Q[k2]? = some Q[k2] from List.getElem?_eq_getElem hkl)
              have Hp := Lib.hid (Hp.out.ext e2)
              have Hg := Lib.hid (Hg.out.ext e2)
              have Hp' := Lib.hid (hp'.ext (xr.trans e2))
              have Hg' := Lib.hid (hg'.ext (xr.trans e2))
              clear hp' hg'
              generalize Q[k2] = y at *
              have k0 := e2.cell k0
              have k1 := e2.cell k1
              have kk2 := e2.cell kk2
              have q0 := (xr.trans e2).cell q0
              have q1 := (xr.trans e2).cell q1
              have q2 := (xr.trans e2).cell q2
              have hnext : ((b' && agreeT (xp, xf, xg) y) = true ↔ PairsAg Q i ∧ RowAg Q (xp, xf, xg) (k2 + 1)) := by
                rw [Bool.and_eq_true, hb', RowAg.succ Hy.out, and_assoc]
              cases b'
              · have Hnx := Lib.hid (show (false = true ↔ PairsAg Q i ∧ RowAg Q (xp, xf, xg) (k2 + 1)) by simpa using hnext)
                clear hnext hb'
                go_wp2_with fail
                apply wp_region_lex (R := Ext) (by kernel_rfl) (by kernel_rfl) Ext.refl (fun _ _ _ => Ext.trans) (Ext.drew _)
                repeat
                  first
                    | (apply lex_ex Ext.refl
                       · rfl
                       · intro W' hR hΦ
                         have y0 := hR.cell k0
                         have y1 := hR.cell k1
                         have y2 := hR.cell kk2
                         have y3 := hR.cell q0
                         have y4 := hR.cell q1
                         have y5 := hR.cell q2
                         go_simp
                         first | done | with_reducible rfl)
                    | (apply lex_skip
                       · rfl)
                  simp only [Act.put, List.setIfInBounds_toArray, List.set_cons_zero, List.set_cons_succ]
                refine lex_nil ?_
                intro W5 hR5 hΦ
                clear hΦ
                go_wp2_with fail
                go_roundw
                case rel => exact ⟨k2 + 1, _, rfl, by go_num, by omega, by first | exact Hnx.out | simpa using Hnx.out, e2.trans hR5⟩
                case measure => simp [intOf]; omega
              · have hag := fun W (hR : Ext _ W) => ragree_any W PA pn pc xf B m d PA' pn' pc' y.2.1 B' m' d' xp y.1 xg y.2.2 (Hp.out.ext hR) (Hg.out.ext hR) (Hp'.out.ext hR) (Hg'.out.ext hR)
                unfold tAgg at hag
                have Hnx := Lib.hid (show (agreeT (xp, xf, xg) y = true ↔ PairsAg Q i ∧ RowAg Q (xp, xf, xg) (k2 + 1)) by simpa using hnext)
                have Hag := Lib.hid hag
                clear hnext hb' hag
                go_wp2_with fail
                apply wp_region_lex (R := Ext) (by kernel_rfl) (by kernel_rfl) Ext.refl (fun _ _ _ => Ext.trans) (Ext.drew _)
                repeat
                  first
                    | (apply lex_ex Ext.refl
                       · rfl
                       · intro W' hR hΦ
                         have y0 := hR.cell k0
                         have y1 := hR.cell k1
                         have y2 := hR.cell kk2
                         have y3 := hR.cell q0
                         have y4 := hR.cell q1
                         have y5 := hR.cell q2
                         go_simp
                         first | done | with_reducible rfl)
                    | (apply lex_skip
                       · rfl)
                  simp only [Act.put, List.setIfInBounds_toArray, List.set_cons_zero, List.set_cons_succ]
                apply lex_callx
                · rfl
                · intro W'
                  go_simp
                  exact ⟨rfl, rfl⟩
                · intro W' hR hΦ
                  exact (Hag.out _ hR).mono fun _ _ h => h
                simp only [Act.put, List.setIfInBounds_toArray, List.set_cons_zero, List.set_cons_succ]
                repeat
                  first
                    | (apply lex_ex Ext.refl
                       · rfl
                       · intro W' hR hΦ
                         have y0 := hR.cell k0
                         have y1 := hR.cell k1
                         have y2 := hR.cell kk2
                         have y3 := hR.cell q0
                         have y4 := hR.cell q1
                         have y5 := hR.cell q2
                         go_simp
                         first | done | with_reducible rfl)
                    | (apply lex_skip
                       · rfl)
                  simp only [Act.put, List.setIfInBounds_toArray, List.set_cons_zero, List.set_cons_succ]
                refine lex_nil ?_
                intro W5 hR5 hΦ
                clear hΦ
                go_wp2_with fail
                go_roundw
                case rel => exact ⟨k2 + 1, _, rfl, by go_num, by omega, by first | exact Hnx.out | simpa using Hnx.out, e2.trans hR5⟩
                case measure => simp [intOf]; omega
            · have hd4 : decide (k2 < i) = false := decide_eq_false hki
              obtain rfl : k2 = i := by omega
              have Hnx := Lib.hid (show (b' = true ↔ PairsAg Q (k2 + 1)) by rw [hb', PairsAg.succ Hx.out])
              clear hb'
              go_wp2_with fail
              go_roundw
              case rel => exact ⟨k2 + 1, _, b', rfl, rfl, by go_num, hil, Hf.out, Hnx.out, xr.trans e2⟩
              case measure => simp [intOf]; omega
    · have hd3 : decide (i < qn) = false := decide_eq_false hlt
      obtain rfl : i = Q.length := by have := Hn.out; omega
      rw [List.take_length] at Hfr
      by_cases h2 : qn < 2
      · have hd4 : decide (qn < 2) = true := decide_eq_true h2
        have hd5 : decide ((qn : Int) < 2) = true := decide_eq_true (by omega)
        go_wp2_with fail
        go_ret
        exact ⟨rfl, x0.trans he⟩
      · have hd4 : decide (qn < 2) = false := decide_eq_false h2
        have hd5 : decide ((qn : Int) < 2) = false := decide_eq_false (by omega)
        have hag := agree_any wr QA qn qc Q (HQ.out.ext he)
        rw [agN_of (by have := Hn.out; omega) Hb.out] at hag
        have hfr := fun W (hR : Ext wr W) => front_any W QA qn qc Q ((HQ.out.ext he).ext hR)
        rw [← Hfr.out] at hfr
        have Hag := Lib.hid hag
        have Hfr2 := Lib.hid hfr
        clear hag hfr
        go_wp2_with fail
        refine Calls.mono Hag.out ?_
        rintro e w8 ⟨rfl, e8⟩
        go_wp2_with fail
        refine Calls.mono (Hfr2.out _ e8) ?_
        rintro e w9 ⟨rfl, e9⟩
        go_wp2_with fail
        go_ret
        exact ⟨rfl, ((x0.trans he).trans e8).trans e9⟩
end Go.Proofs.Ytihegdjdgklbgaa
