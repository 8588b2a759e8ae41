/- The walk of the law JudgePairs. Printed by wip/gen/mkjup.py. -/
import Derived.Test.YtihegdjdgklbgaaJuB
namespace Go.Proofs.Ytihegdjdgklbgaa
set_option maxRecDepth 100000
open Go.RowKit
set_option linter.unusedVariables false

def jpOuter (w : World) (ts : List ToldT) (v iv : Value) (wr : World) : Prop := ∃ (i : Nat) (b : Bool), v = .bool b ∧ iv = .int .i64 (i : Nat) ∧ i ≤ ts.length ∧ (b = true ↔ PairsAg ts i) ∧ Ext w wr
def jpInner (w : World) (ts : List ToldT) (i : Nat) (x : ToldT) (v kv : Value) (wr : World) : Prop := ∃ (k : Nat) (b : Bool), v = .bool b ∧ kv = .int .i64 (k : Nat) ∧ k ≤ i ∧ (b = true ↔ PairsAg ts i ∧ RowAg ts x k) ∧ Ext w wr
set_option maxRecDepth 100000 in
set_option maxHeartbeats 4000000 in
theorem pairs_walk (w : World) (A : Option Addr) (n c : Nat) (ts : List ToldT) (h : Rt w A n c ts) :
    Calls Try.prog 9 #[.slice A n c] w (Yes w) := by
  go_enter Try.func9, Try.ntmps9
  go_wp2_with fail
  refine (begun28_any _).mono ?_
  rintro e w1 ⟨rfl, e1⟩
  go_wp2_with fail
  refine (cut28_any w w1 e1 A n c ts h).mono ?_
  rintro e w2 ⟨QA, qn, qc, rfl, hq, e2⟩
  have hQ := hq.rt
  have x2 := e1.trans e2
  clear hq e1 e2 h
  generalize cutT ts = Q at *
  have hn := hQ.len
  have hmx := hQ.max
  unfold maxLen at hmx
  have Hn := Lib.hid hn
  clear hn
  by_cases hlt2 : qn < 2
  · have hd : decide (qn < 2) = true := decide_eq_true hlt2
    have hd2 : decide ((qn : Int) < 2) = true := decide_eq_true (by omega)
    go_wp2_with fail
    go_ret
    exact ⟨rfl, x2⟩
  have hd : decide (qn < 2) = false := decide_eq_false hlt2
  have hd2 : decide ((qn : Int) < 2) = false := decide_eq_false (by omega)
  go_wp2_with fail
  go_loopw [4, 5] (fun v iv wr => jpOuter w2 Q v iv wr) (fun _ iv _ => Q.length - (intOf iv).toNat)
  case atStart => exact ⟨0, true, rfl, rfl, by omega, by simp [PairsAg.zero], Ext.refl _⟩
  case round =>
    obtain ⟨i, b, rfl, rfl, hi, hb, he⟩ := hrel
    have Hb := Lib.hid hb
    clear hb
    by_cases hlt : i < qn
    · have hd3 : decide (i < qn) = true := decide_eq_true hlt
      have hil : i < Q.length := by have := Hn.out; omega
      obtain ⟨b0, o0, PA, pn, pc, B, m, d, rfl, k0, k1, k2, hp, hg⟩ := hQ.at_ hil
      have Hx := Lib.hid (show Q[i]? = some Q[i] from List.getElem?_eq_getElem hil)
      have Hp := Lib.hid hp
      have Hg := Lib.hid hg
      clear hp hg
      generalize Q[i] = x at *
      have hix : (0 : Int) ≤ (i : Int) ∧ (i : Int) < (qn : Int) := by omega
      go_wp2_with fail
      go_loopw [4, 6] (fun v kv wr2 => jpInner w2 Q i x v kv wr2) (fun _ kv _ => i - (intOf kv).toNat)
      case atStart => exact ⟨0, b, rfl, rfl, by omega, by rw [Hb.out]; simp [RowAg.zero], he⟩
      case round =>
        obtain ⟨k, b', rfl, rfl, hk, hb', e2⟩ := hrel
        by_cases hki : k < i
        · have hd4 : decide (k < i) = true := decide_eq_true hki
          have hkl : k < Q.length := by omega
          have hkq : k < qn := by omega
          have hix2 : (0 : Int) ≤ (k : Int) ∧ (k : Int) < (qn : Int) := by omega
          obtain ⟨b1, o1, PA', pn', pc', B', m', d', hb1, q0, q1, q2, hp', hg'⟩ := hQ.at_ hkl
          cases hb1
          have Hy := Lib.hid (show Q[k]? = some Q[k] from List.getElem?_eq_getElem hkl)
          have Hp := Lib.hid (Hp.out.ext e2)
          have Hg := Lib.hid (Hg.out.ext e2)
          have Hp' := Lib.hid (hp'.ext e2)
          have Hg' := Lib.hid (hg'.ext e2)
          clear hp' hg'
          generalize Q[k] = y at *
          have k0 := e2.cell k0
          have k1 := e2.cell k1
          have k2 := e2.cell k2
          have q0 := e2.cell q0
          have q1 := e2.cell q1
          have q2 := e2.cell q2
          have hnext : ((b' && agreeT x y) = true ↔ PairsAg Q i ∧ RowAg Q x (k + 1)) := by
            rw [Bool.and_eq_true, hb', RowAg.succ Hy.out, and_assoc]
          cases b'
          · have Hnx := Lib.hid (show (false = true ↔ PairsAg Q i ∧ RowAg Q x (k + 1)) by simpa using hnext)
            clear hnext hb'
            go_wp2_with fail
            apply wp_region_lex (R := Ext) (by kernel_rfl) (by kernel_rfl) Ext.refl (fun _ _ _ => Ext.trans) (Ext.drew _)
            repeat
              first
                | (apply lex_ex Ext.refl
                   · rfl
                   · intro W' hR hΦ
                     have y0 := hR.cell k0
                     have y1 := hR.cell k1
                     have y2 := hR.cell k2
                     have y3 := hR.cell q0
                     have y4 := hR.cell q1
                     have y5 := hR.cell q2
                     go_simp
                     first | done | with_reducible rfl)
                | (apply lex_skip
                   · rfl)
              simp only [Act.put, List.setIfInBounds_toArray, List.set_cons_zero, List.set_cons_succ]
            refine lex_nil ?_
            intro W5 hR5 hΦ
            clear hΦ
            go_wp2_with fail
            go_roundw
            case rel => exact ⟨k + 1, _, rfl, by go_num, by omega, by first | exact Hnx.out | simpa using Hnx.out, e2.trans hR5⟩
            case measure => simp [intOf]; omega
          · cases hxy : agreeT x y
            · have Hnx := Lib.hid (show (false = true ↔ PairsAg Q i ∧ RowAg Q x (k + 1)) by simpa [hxy] using hnext)
              have Hxy := Lib.hid hxy
              clear hnext hb' hxy
              go_wp2_with fail
              apply wp_region_lex (R := Ext) (by kernel_rfl) (by kernel_rfl) Ext.refl (fun _ _ _ => Ext.trans) (Ext.drew _)
              repeat
                first
                  | (apply lex_ex Ext.refl
                     · rfl
                     · intro W' hR hΦ
                       have y0 := hR.cell k0
                       have y1 := hR.cell k1
                       have y2 := hR.cell k2
                       have y3 := hR.cell q0
                       have y4 := hR.cell q1
                       have y5 := hR.cell q2
                       go_simp
                       first | done | with_reducible rfl)
                  | (apply lex_skip
                     · rfl)
                simp only [Act.put, List.setIfInBounds_toArray, List.set_cons_zero, List.set_cons_succ]
              apply lex_new (p := fun u W => ∃ B0, u = .slice (some ⟨B0, 0, none⟩) 2 2 ∧ Rt W (some ⟨B0, 0, none⟩) 2 2 [x, y]) (fun _ _ _ ⟨b, h1, h2⟩ e => ⟨b, h1, h2.ext e⟩)
              · rfl
              · intro W hR hΦ
                refine ⟨.slice (some ⟨W.heap.size, 0, none⟩) 2 2, W.alloc (.cells (tcs [((PA, pn, pc), x.2.1, (B, m, d)), ((PA', pn', pc'), y.2.1, (B', m', d'))]).toArray 51), ?_, Ext.alloc _ _, W.heap.size, rfl, rt_two_new ⟨Hp.out.ext hR, rfl, Hg.out.ext hR⟩ ⟨Hp'.out.ext hR, rfl, Hg'.out.ext hR⟩⟩
                go_simp
                first | done | rfl
              intro ev
              simp only [Act.put, List.setIfInBounds_toArray, List.set_cons_zero, List.set_cons_succ]
              apply lex_callx
              · rfl
              · intro W'
                go_simp
                exact ⟨rfl, rfl⟩
              · intro W' hR hΦ
                obtain ⟨B0, rfl, hrt⟩ := hΦ.1 rfl
                have hag := agree_any W' _ 2 2 _ hrt
                rw [agN_two, Hxy.out] at hag
                exact hag.mono fun _ _ h => h
              simp only [Act.put, List.setIfInBounds_toArray, List.set_cons_zero, List.set_cons_succ]
              repeat
                first
                  | (apply lex_ex Ext.refl
                     · rfl
                     · intro W' hR hΦ
                       have y0 := hR.cell k0
                       have y1 := hR.cell k1
                       have y2 := hR.cell k2
                       have y3 := hR.cell q0
                       have y4 := hR.cell q1
                       have y5 := hR.cell q2
                       go_simp
                       first | done | with_reducible rfl)
                  | (apply lex_skip
                     · rfl)
                simp only [Act.put, List.setIfInBounds_toArray, List.set_cons_zero, List.set_cons_succ]
              refine lex_nil ?_
              intro W5 hR5 hΦ
              clear hΦ
              go_wp2_with fail
              go_roundw
              case rel => exact ⟨k + 1, _, rfl, by go_num, by omega, by first | exact Hnx.out | simpa using Hnx.out, e2.trans hR5⟩
              case measure => simp [intOf]; omega
            · have Hnx := Lib.hid (show (true = true ↔ PairsAg Q i ∧ RowAg Q x (k + 1)) by simpa [hxy] using hnext)
              have Hxy := Lib.hid hxy
              have Hyx := Lib.hid ((agreeT_symm y x).trans hxy)
              clear hnext hb' hxy
              go_wp2_with fail
              apply wp_region_lex (R := Ext) (by kernel_rfl) (by kernel_rfl) Ext.refl (fun _ _ _ => Ext.trans) (Ext.drew _)
              repeat
                first
                  | (apply lex_ex Ext.refl
                     · rfl
                     · intro W' hR hΦ
                       have y0 := hR.cell k0
                       have y1 := hR.cell k1
                       have y2 := hR.cell k2
                       have y3 := hR.cell q0
                       have y4 := hR.cell q1
                       have y5 := hR.cell q2
                       go_simp
                       first | done | with_reducible rfl)
                  | (apply lex_skip
                     · rfl)
                simp only [Act.put, List.setIfInBounds_toArray, List.set_cons_zero, List.set_cons_succ]
              apply lex_new (p := fun u W => ∃ B0, u = .slice (some ⟨B0, 0, none⟩) 2 2 ∧ Rt W (some ⟨B0, 0, none⟩) 2 2 [x, y]) (fun _ _ _ ⟨b, h1, h2⟩ e => ⟨b, h1, h2.ext e⟩)
              · rfl
              · intro W hR hΦ
                refine ⟨.slice (some ⟨W.heap.size, 0, none⟩) 2 2, W.alloc (.cells (tcs [((PA, pn, pc), x.2.1, (B, m, d)), ((PA', pn', pc'), y.2.1, (B', m', d'))]).toArray 51), ?_, Ext.alloc _ _, W.heap.size, rfl, rt_two_new ⟨Hp.out.ext hR, rfl, Hg.out.ext hR⟩ ⟨Hp'.out.ext hR, rfl, Hg'.out.ext hR⟩⟩
                go_simp
                first | done | rfl
              intro ev
              simp only [Act.put, List.setIfInBounds_toArray, List.set_cons_zero, List.set_cons_succ]
              apply lex_callx
              · rfl
              · intro W'
                go_simp
                exact ⟨rfl, rfl⟩
              · intro W' hR hΦ
                obtain ⟨B0, rfl, hrt⟩ := hΦ.1 rfl
                have hag := agree_any W' _ 2 2 _ hrt
                rw [agN_two, Hxy.out] at hag
                exact hag.mono fun _ _ h => h
              simp only [Act.put, List.setIfInBounds_toArray, List.set_cons_zero, List.set_cons_succ]
              repeat
                first
                  | (apply lex_ex Ext.refl
                     · rfl
                     · intro W' hR hΦ
                       have y0 := hR.cell k0
                       have y1 := hR.cell k1
                       have y2 := hR.cell k2
                       have y3 := hR.cell q0
                       have y4 := hR.cell q1
                       have y5 := hR.cell q2
                       go_simp
                       first | done | with_reducible rfl)
                  | (apply lex_skip
                     · rfl)
                simp only [Act.put, List.setIfInBounds_toArray, List.set_cons_zero, List.set_cons_succ]
              apply lex_new (p := fun u W => ∃ B0, u = .slice (some ⟨B0, 0, none⟩) 2 2 ∧ Rt W (some ⟨B0, 0, none⟩) 2 2 [y, x]) (fun _ _ _ ⟨b, h1, h2⟩ e => ⟨b, h1, h2.ext e⟩)
              · rfl
              · intro W hR hΦ
                refine ⟨.slice (some ⟨W.heap.size, 0, none⟩) 2 2, W.alloc (.cells (tcs [((PA', pn', pc'), y.2.1, (B', m', d')), ((PA, pn, pc), x.2.1, (B, m, d))]).toArray 51), ?_, Ext.alloc _ _, W.heap.size, rfl, rt_two_new ⟨Hp'.out.ext hR, rfl, Hg'.out.ext hR⟩ ⟨Hp.out.ext hR, rfl, Hg.out.ext hR⟩⟩
                go_simp
                first | done | rfl
              intro ev
              simp only [Act.put, List.setIfInBounds_toArray, List.set_cons_zero, List.set_cons_succ]
              apply lex_callx
              · rfl
              · intro W'
                go_simp
                exact ⟨rfl, rfl⟩
              · intro W' hR hΦ
                obtain ⟨B0, rfl, hrt⟩ := hΦ.1 rfl
                have hag := agree_any W' _ 2 2 _ hrt
                rw [agN_two, Hyx.out] at hag
                exact hag.mono fun _ _ h => h
              simp only [Act.put, List.setIfInBounds_toArray, List.set_cons_zero, List.set_cons_succ]
              repeat
                first
                  | (apply lex_ex Ext.refl
                     · rfl
                     · intro W' hR hΦ
                       have y0 := hR.cell k0
                       have y1 := hR.cell k1
                       have y2 := hR.cell k2
                       have y3 := hR.cell q0
                       have y4 := hR.cell q1
                       have y5 := hR.cell q2
                       go_simp
                       first | done | with_reducible rfl)
                  | (apply lex_skip
                     · rfl)
                simp only [Act.put, List.setIfInBounds_toArray, List.set_cons_zero, List.set_cons_succ]
              refine lex_nil ?_
              intro W5 hR5 hΦ
              clear hΦ
              go_wp2_with fail
              go_roundw
              case rel => exact ⟨k + 1, _, rfl, by go_num, by omega, by first | exact Hnx.out | simpa using Hnx.out, e2.trans hR5⟩
              case measure => simp [intOf]; omega
        · have hd4 : decide (k < i) = false := decide_eq_false hki
          obtain rfl : k = i := by omega
          have Hnx := Lib.hid (show (b' = true ↔ PairsAg Q (k + 1)) by rw [hb', PairsAg.succ Hx.out])
          clear hb'
          go_wp2_with fail
          go_roundw
          case rel => exact ⟨k + 1, b', rfl, by go_num, hil, Hnx.out, e2⟩
          case measure => simp [intOf]; omega
    · have hd3 : decide (i < qn) = false := decide_eq_false hlt
      obtain rfl : i = Q.length := by have := Hn.out; omega
      have hag := agree_any wr QA qn qc Q (hQ.ext he)
      rw [agN_of (by have := Hn.out; omega) Hb.out] at hag
      have Hag := Lib.hid hag
      clear hag
      go_wp2_with fail
      refine (Hag.out).mono ?_
      rintro e w9 ⟨rfl, e9⟩
      go_wp2_with fail
      go_ret
      exact ⟨by simp, (x2.trans he).trans e9⟩
end Go.Proofs.Ytihegdjdgklbgaa
