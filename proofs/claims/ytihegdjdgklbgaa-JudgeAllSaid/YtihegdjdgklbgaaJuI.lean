/- The walk of law28.agree. -/
import Derived.Test.YtihegdjdgklbgaaJuG
namespace Go.Proofs.Ytihegdjdgklbgaa
set_option maxRecDepth 100000
open Go.RowKit
set_option linter.unusedVariables false

theorem agreeT_no {a b : ToldT} (h : mayT a = false ∨ mayT b = false) : agreeT a b = false := by
  unfold agreeT
  rcases h with h | h <;> rw [h] <;> simp
set_option maxHeartbeats 2000000 in
theorem ragree_no (w : World) (A : Option Addr) (n c : Nat) (f : Int) (B : Option Addr) (m d : Nat) (A' : Option Addr) (n' c' : Nat) (f' : Int) (B' : Option Addr) (m' d' : Nat) (h : f < 0 ∨ f' < 0 ∨ (n : Int) < f ∨ (n' : Int) < f') :
    Calls Try.prog 24 #[tAgg A n c f B m d, tAgg A' n' c' f' B' m' d'] w (IsB w false) := by
  unfold tAgg
  by_cases h1 : f < 0
  · have d1 : decide (f < 0) = true := decide_eq_true h1
    clear h
    go_enter Try.func24, Try.ntmps24
    go_wp2_with fail
    all_goals (go_ret; exact ⟨rfl, (Ext.alloc _ _).trans (Ext.alloc _ _)⟩)
  have d1 : decide (f < 0) = false := decide_eq_false h1
  by_cases h2 : f' < 0
  · have d2 : decide (f' < 0) = true := decide_eq_true h2
    clear h
    go_enter Try.func24, Try.ntmps24
    go_wp2_with fail
    all_goals (go_ret; exact ⟨rfl, (Ext.alloc _ _).trans (Ext.alloc _ _)⟩)
  have d2 : decide (f' < 0) = false := decide_eq_false h2
  by_cases h3 : (n : Int) < f
  · have d3 : decide ((n : Int) < f) = true := decide_eq_true h3
    clear h
    go_enter Try.func24, Try.ntmps24
    go_wp2_with fail
    all_goals (go_ret; exact ⟨rfl, (Ext.alloc _ _).trans (Ext.alloc _ _)⟩)
  have d3 : decide ((n : Int) < f) = false := decide_eq_false h3
  by_cases h4 : (n' : Int) < f'
  · have d4 : decide ((n' : Int) < f') = true := decide_eq_true h4
    clear h
    go_enter Try.func24, Try.ntmps24
    go_wp2_with fail
    all_goals (go_ret; exact ⟨rfl, (Ext.alloc _ _).trans (Ext.alloc _ _)⟩)
  have d4 : decide ((n' : Int) < f') = false := decide_eq_false h4
  exact absurd h (by simp only [h1, h2, h3, h4, or_self, not_false_eq_true])
def rglt (V : World) (ps ps' : List (List UInt8)) (N : Nat) (iv : Value) (wr : World) : Prop := ∃ i : Nat, iv = .int .i64 (i : Nat) ∧ i ≤ N ∧ ps.take i = ps'.take i ∧ Ext V wr
set_option maxHeartbeats 4000000 in
theorem ragree_lt (w : World) (A : Option Addr) (n c : Nat) (k : Nat) (B : Option Addr) (m d : Nat) (A' : Option Addr) (n' c' : Nat) (k' : Nat) (B' : Option Addr) (m' d' : Nat) (ps ps' : List (List UInt8)) (g g' : List UInt8)
    (hp : Rp w A n c ps) (hg : Rb w B m d g) (hp' : Rp w A' n' c' ps') (hg' : Rb w B' m' d' g') (hk : k ≤ n) (hk' : k' ≤ n') (hc : k < k') :
    Calls Try.prog 24 #[tAgg A n c k B m d, tAgg A' n' c' k' B' m' d'] w (IsB w ((ps.take k == ps'.take k) && ((k : Int) != (k' : Int) || g == g'))) := by
  have hmx := hp.max
  have hmx' := hp'.max
  unfold maxLen at hmx hmx'
  have hn := hp.len
  have hn' := hp'.len
  have Hn := Lib.hid hn
  have Hn' := Lib.hid hn'
  clear hn hn'
  unfold tAgg
  have hc1 : ¬ k' < k := by omega
  have hc2 : ¬ k' = k := by omega
  have hc3 : ¬ k = k' := by omega
  have e1 : ((k : Int) < 0) = False := eq_false (by omega)
  have e2 : ((k' : Int) < 0) = False := eq_false (by omega)
  have e3 : decide ((n : Int) < (k : Int)) = false := decide_eq_false (by omega)
  have e4 : decide ((n' : Int) < (k' : Int)) = false := decide_eq_false (by omega)
  have e5 : ¬ n < k := by omega
  have e6 : ¬ n' < k' := by omega
  go_enter Try.func24, Try.ntmps24
  go_wp2_with fail
  generalize hV : World.alloc (World.alloc w _) _ = V
  have eV : Ext w V := by subst hV; exact (Ext.alloc _ _).trans (Ext.alloc _ _)
  have c0 : V.cell? ⟨w.heap.size, 0, none⟩ = some (.slice A n c) := by subst hV; go_simp
  have c1 : V.cell? ⟨w.heap.size, 1, none⟩ = some (.int .i64 (k : Nat)) := by subst hV; go_simp
  have c2 : V.cell? ⟨w.heap.size, 2, none⟩ = some (.slice B m d) := by subst hV; go_simp
  have c3 : V.cell? ⟨w.heap.size + 1, 0, none⟩ = some (.slice A' n' c') := by subst hV; go_simp
  have c4 : V.cell? ⟨w.heap.size + 1, 1, none⟩ = some (.int .i64 (k' : Nat)) := by subst hV; go_simp
  have c5 : V.cell? ⟨w.heap.size + 1, 2, none⟩ = some (.slice B' m' d') := by subst hV; go_simp
  clear hV
  go_loopw [6] (fun iv wr => rglt V ps ps' k iv wr) (fun iv _ => k - (intOf iv).toNat)
  case atStart => exact ⟨0, rfl, by omega, by simp, Ext.refl _⟩
  case round =>
    obtain ⟨i, rfl, hi, htk, he⟩ := hrel
    have Htk := Lib.hid htk
    clear htk
    have c0 := he.cell c0
    have c1 := he.cell c1
    have c2 := he.cell c2
    have c3 := he.cell c3
    have c4 := he.cell c4
    have c5 := he.cell c5
    by_cases hlt : i < k
    · have hd : decide (i < k) = true := decide_eq_true hlt
      have hia : i < ps.length := by have := Hn.out; omega
      have hib : i < ps'.length := by have := Hn'.out; omega
      obtain ⟨ba, oa, Ai, ni, ci, rfl, q0, hra⟩ := hp.at_ hia
      obtain ⟨bb, ob, Bi, mi, di, rfl, q1, hrb⟩ := hp'.at_ hib
      have q0 := he.cell (eV.cell q0)
      have q1 := he.cell (eV.cell q1)
      have hra := (hra.ext eV).ext he
      have hrb := (hrb.ext eV).ext he
      have hix : (0 : Int) ≤ (i : Int) ∧ (i : Int) < (n : Int) := by omega
      have hix2 : (0 : Int) ≤ (i : Int) ∧ (i : Int) < (n' : Int) := by omega
      have hin : i < n := by omega
      have hin' : i < n' := by omega
      have htake : ps[i] = ps'[i] → ps.take (i + 1) = ps'.take (i + 1) := fun e => by rw [List.take_succ_eq_append_getElem hia, List.take_succ_eq_append_getElem hib, Htk.out, e]
      have hne : ps[i] ≠ ps'[i] → (ps.take k == ps'.take k) = false := fun e => beq_eq_false_iff_ne.2 (fun e2 => e (by
        have h1 := congrArg (fun l => l[i]?) e2
        simp only [List.getElem?_take, if_pos hlt] at h1
        rw [List.getElem?_eq_getElem hia, List.getElem?_eq_getElem hib] at h1
        exact Option.some.inj h1))
      have Htake := Lib.hid htake
      have Hne := Lib.hid hne
      clear htake hne
      generalize ps[i] = x at *
      generalize ps'[i] = y at *
      go_wp2_with fail
      apply wp_region_lex (R := Ext) (by kernel_rfl) (by kernel_rfl) Ext.refl (fun _ _ _ => Ext.trans) (Ext.drew _)
      repeat
        apply lex_ex Ext.refl
        · rfl
        · intro W' hR hΦ
          have y0 := hR.cell c0
          have y3 := hR.cell c3
          have y6 := hR.cell q0
          have y7 := hR.cell q1
          have z1 := run_string_of (P := Try.prog) W' 43 9 5 Try.underlying43 Try.underlying5 Try.underlying9 Ai ni ci x (hra.ext hR)
          have z2 := run_string_of (P := Try.prog) W' 43 9 5 Try.underlying43 Try.underlying5 Try.underlying9 Bi mi di y (hrb.ext hR)
          go_simp
          first | done | with_reducible rfl
        simp only [Act.put, List.setIfInBounds_toArray, List.set_cons_zero, List.set_cons_succ]
      refine lex_nil ?_
      intro W5 hR5 hΦ
      clear hΦ
      have x5 := (eV.trans he).trans hR5
      have hqq : (x != y) = !(x == y) := rfl
      cases hxy : x == y
      · have hf := Hne.out (beq_eq_false_iff_ne.1 hxy)
        have Hf := Lib.hid hf
        have hx2 : (x != y) = true := by rw [hqq, hxy]; rfl
        clear hf hqq
        go_wp2_with fail
        go_ret
        exact ⟨by rw [Hf.out]; rfl, x5⟩
      · have ht := Htake.out (beq_iff_eq.1 hxy)
        have Ht := Lib.hid ht
        have hx2 : (x != y) = false := by rw [hqq, hxy]; rfl
        clear ht hqq
        go_wp2_with fail
        go_roundw
        case rel => exact ⟨i + 1, by go_num, hlt, Ht.out, he.trans hR5⟩
        case measure => simp [intOf]; omega
    · have hd : decide (i < k) = false := decide_eq_false hlt
      obtain rfl : i = k := by omega
      have hE : (ps.take i == ps'.take i) = true := beq_iff_eq.2 Htk.out
      have HE := Lib.hid hE
      have hq : ((i : Int) != (k' : Int)) = true := by rw [bne_iff_ne]; omega
      have Hq := Lib.hid hq
      clear hE
      go_wp2_with fail
      go_ret
      exact ⟨by rw [HE.out, Hq.out]; rfl, eV.trans he⟩

set_option maxHeartbeats 4000000 in
theorem ragree_gt (w : World) (A : Option Addr) (n c : Nat) (k : Nat) (B : Option Addr) (m d : Nat) (A' : Option Addr) (n' c' : Nat) (k' : Nat) (B' : Option Addr) (m' d' : Nat) (ps ps' : List (List UInt8)) (g g' : List UInt8)
    (hp : Rp w A n c ps) (hg : Rb w B m d g) (hp' : Rp w A' n' c' ps') (hg' : Rb w B' m' d' g') (hk : k ≤ n) (hk' : k' ≤ n') (hc : k' < k) :
    Calls Try.prog 24 #[tAgg A n c k B m d, tAgg A' n' c' k' B' m' d'] w (IsB w ((ps.take k' == ps'.take k') && ((k : Int) != (k' : Int) || g == g'))) := by
  have hmx := hp.max
  have hmx' := hp'.max
  unfold maxLen at hmx hmx'
  have hn := hp.len
  have hn' := hp'.len
  have Hn := Lib.hid hn
  have Hn' := Lib.hid hn'
  clear hn hn'
  unfold tAgg
  have hc1 : ¬ k < k' := by omega
  have hc2 : ¬ k' = k := by omega
  have hc3 : ¬ k = k' := by omega
  have e1 : ((k : Int) < 0) = False := eq_false (by omega)
  have e2 : ((k' : Int) < 0) = False := eq_false (by omega)
  have e3 : decide ((n : Int) < (k : Int)) = false := decide_eq_false (by omega)
  have e4 : decide ((n' : Int) < (k' : Int)) = false := decide_eq_false (by omega)
  have e5 : ¬ n < k := by omega
  have e6 : ¬ n' < k' := by omega
  go_enter Try.func24, Try.ntmps24
  go_wp2_with fail
  generalize hV : World.alloc (World.alloc w _) _ = V
  have eV : Ext w V := by subst hV; exact (Ext.alloc _ _).trans (Ext.alloc _ _)
  have c0 : V.cell? ⟨w.heap.size, 0, none⟩ = some (.slice A n c) := by subst hV; go_simp
  have c1 : V.cell? ⟨w.heap.size, 1, none⟩ = some (.int .i64 (k : Nat)) := by subst hV; go_simp
  have c2 : V.cell? ⟨w.heap.size, 2, none⟩ = some (.slice B m d) := by subst hV; go_simp
  have c3 : V.cell? ⟨w.heap.size + 1, 0, none⟩ = some (.slice A' n' c') := by subst hV; go_simp
  have c4 : V.cell? ⟨w.heap.size + 1, 1, none⟩ = some (.int .i64 (k' : Nat)) := by subst hV; go_simp
  have c5 : V.cell? ⟨w.heap.size + 1, 2, none⟩ = some (.slice B' m' d') := by subst hV; go_simp
  clear hV
  go_loopw [6] (fun iv wr => rglt V ps ps' k' iv wr) (fun iv _ => k' - (intOf iv).toNat)
  case atStart => exact ⟨0, rfl, by omega, by simp, Ext.refl _⟩
  case round =>
    obtain ⟨i, rfl, hi, htk, he⟩ := hrel
    have Htk := Lib.hid htk
    clear htk
    have c0 := he.cell c0
    have c1 := he.cell c1
    have c2 := he.cell c2
    have c3 := he.cell c3
    have c4 := he.cell c4
    have c5 := he.cell c5
    by_cases hlt : i < k'
    · have hd : decide (i < k') = true := decide_eq_true hlt
      have hia : i < ps.length := by have := Hn.out; omega
      have hib : i < ps'.length := by have := Hn'.out; omega
      obtain ⟨ba, oa, Ai, ni, ci, rfl, q0, hra⟩ := hp.at_ hia
      obtain ⟨bb, ob, Bi, mi, di, rfl, q1, hrb⟩ := hp'.at_ hib
      have q0 := he.cell (eV.cell q0)
      have q1 := he.cell (eV.cell q1)
      have hra := (hra.ext eV).ext he
      have hrb := (hrb.ext eV).ext he
      have hix : (0 : Int) ≤ (i : Int) ∧ (i : Int) < (n : Int) := by omega
      have hix2 : (0 : Int) ≤ (i : Int) ∧ (i : Int) < (n' : Int) := by omega
      have hin : i < n := by omega
      have hin' : i < n' := by omega
      have htake : ps[i] = ps'[i] → ps.take (i + 1) = ps'.take (i + 1) := fun e => by rw [List.take_succ_eq_append_getElem hia, List.take_succ_eq_append_getElem hib, Htk.out, e]
      have hne : ps[i] ≠ ps'[i] → (ps.take k' == ps'.take k') = false := fun e => beq_eq_false_iff_ne.2 (fun e2 => e (by
        have h1 := congrArg (fun l => l[i]?) e2
        simp only [List.getElem?_take, if_pos hlt] at h1
        rw [List.getElem?_eq_getElem hia, List.getElem?_eq_getElem hib] at h1
        exact Option.some.inj h1))
      have Htake := Lib.hid htake
      have Hne := Lib.hid hne
      clear htake hne
      generalize ps[i] = x at *
      generalize ps'[i] = y at *
      go_wp2_with fail
      apply wp_region_lex (R := Ext) (by kernel_rfl) (by kernel_rfl) Ext.refl (fun _ _ _ => Ext.trans) (Ext.drew _)
      repeat
        apply lex_ex Ext.refl
        · rfl
        · intro W' hR hΦ
          have y0 := hR.cell c0
          have y3 := hR.cell c3
          have y6 := hR.cell q0
          have y7 := hR.cell q1
          have z1 := run_string_of (P := Try.prog) W' 43 9 5 Try.underlying43 Try.underlying5 Try.underlying9 Ai ni ci x (hra.ext hR)
          have z2 := run_string_of (P := Try.prog) W' 43 9 5 Try.underlying43 Try.underlying5 Try.underlying9 Bi mi di y (hrb.ext hR)
          go_simp
          first | done | with_reducible rfl
        simp only [Act.put, List.setIfInBounds_toArray, List.set_cons_zero, List.set_cons_succ]
      refine lex_nil ?_
      intro W5 hR5 hΦ
      clear hΦ
      have x5 := (eV.trans he).trans hR5
      have hqq : (x != y) = !(x == y) := rfl
      cases hxy : x == y
      · have hf := Hne.out (beq_eq_false_iff_ne.1 hxy)
        have Hf := Lib.hid hf
        have hx2 : (x != y) = true := by rw [hqq, hxy]; rfl
        clear hf hqq
        go_wp2_with fail
        go_ret
        exact ⟨by rw [Hf.out]; rfl, x5⟩
      · have ht := Htake.out (beq_iff_eq.1 hxy)
        have Ht := Lib.hid ht
        have hx2 : (x != y) = false := by rw [hqq, hxy]; rfl
        clear ht hqq
        go_wp2_with fail
        go_roundw
        case rel => exact ⟨i + 1, by go_num, hlt, Ht.out, he.trans hR5⟩
        case measure => simp [intOf]; omega
    · have hd : decide (i < k') = false := decide_eq_false hlt
      obtain rfl : i = k' := by omega
      have hE : (ps.take i == ps'.take i) = true := beq_iff_eq.2 Htk.out
      have HE := Lib.hid hE
      have hq : ((k : Int) != (i : Int)) = true := by rw [bne_iff_ne]; omega
      have Hq := Lib.hid hq
      clear hE
      go_wp2_with fail
      go_ret
      exact ⟨by rw [HE.out, Hq.out]; rfl, eV.trans he⟩
set_option maxHeartbeats 4000000 in
theorem ragree_eq (w : World) (A : Option Addr) (n c : Nat) (k : Nat) (B : Option Addr) (m d : Nat) (A' : Option Addr) (n' c' : Nat) (B' : Option Addr) (m' d' : Nat) (ps ps' : List (List UInt8)) (g g' : List UInt8)
    (hp : Rp w A n c ps) (hg : Rb w B m d g) (hp' : Rp w A' n' c' ps') (hg' : Rb w B' m' d' g') (hk : k ≤ n) (hk' : k ≤ n') :
    Calls Try.prog 24 #[tAgg A n c k B m d, tAgg A' n' c' k B' m' d'] w (IsB w ((ps.take k == ps'.take k) && (g == g'))) := by
  have hmx := hp.max
  have hmx' := hp'.max
  unfold maxLen at hmx hmx'
  have hn := hp.len
  have hn' := hp'.len
  have Hn := Lib.hid hn
  have Hn' := Lib.hid hn'
  clear hn hn'
  unfold tAgg
  have e1 : ((k : Int) < 0) = False := eq_false (by omega)
  have e3 : decide ((n : Int) < (k : Int)) = false := decide_eq_false (by omega)
  have e4 : decide ((n' : Int) < (k : Int)) = false := decide_eq_false (by omega)
  have e5 : ¬ n < k := by omega
  have e6 : ¬ n' < k := by omega
  go_enter Try.func24, Try.ntmps24
  go_wp2_with fail
  generalize hV : World.alloc (World.alloc w _) _ = V
  have eV : Ext w V := by subst hV; exact (Ext.alloc _ _).trans (Ext.alloc _ _)
  have c0 : V.cell? ⟨w.heap.size, 0, none⟩ = some (.slice A n c) := by subst hV; go_simp
  have c1 : V.cell? ⟨w.heap.size, 1, none⟩ = some (.int .i64 (k : Nat)) := by subst hV; go_simp
  have c2 : V.cell? ⟨w.heap.size, 2, none⟩ = some (.slice B m d) := by subst hV; go_simp
  have c3 : V.cell? ⟨w.heap.size + 1, 0, none⟩ = some (.slice A' n' c') := by subst hV; go_simp
  have c4 : V.cell? ⟨w.heap.size + 1, 1, none⟩ = some (.int .i64 (k : Nat)) := by subst hV; go_simp
  have c5 : V.cell? ⟨w.heap.size + 1, 2, none⟩ = some (.slice B' m' d') := by subst hV; go_simp
  clear hV
  go_loopw [6] (fun iv wr => rglt V ps ps' k iv wr) (fun iv _ => k - (intOf iv).toNat)
  case atStart => exact ⟨0, rfl, by omega, by simp, Ext.refl _⟩
  case round =>
    obtain ⟨i, rfl, hi, htk, he⟩ := hrel
    have Htk := Lib.hid htk
    clear htk
    have c0 := he.cell c0
    have c1 := he.cell c1
    have c2 := he.cell c2
    have c3 := he.cell c3
    have c4 := he.cell c4
    have c5 := he.cell c5
    by_cases hlt : i < k
    · have hd : decide (i < k) = true := decide_eq_true hlt
      have hia : i < ps.length := by have := Hn.out; omega
      have hib : i < ps'.length := by have := Hn'.out; omega
      obtain ⟨ba, oa, Ai, ni, ci, rfl, q0, hra⟩ := hp.at_ hia
      obtain ⟨bb, ob, Bi, mi, di, rfl, q1, hrb⟩ := hp'.at_ hib
      have q0 := he.cell (eV.cell q0)
      have q1 := he.cell (eV.cell q1)
      have hra := (hra.ext eV).ext he
      have hrb := (hrb.ext eV).ext he
      have hix : (0 : Int) ≤ (i : Int) ∧ (i : Int) < (n : Int) := by omega
      have hix2 : (0 : Int) ≤ (i : Int) ∧ (i : Int) < (n' : Int) := by omega
      have hin : i < n := by omega
      have hin' : i < n' := by omega
      have htake : ps[i] = ps'[i] → ps.take (i + 1) = ps'.take (i + 1) := fun e => by rw [List.take_succ_eq_append_getElem hia, List.take_succ_eq_append_getElem hib, Htk.out, e]
      have hne : ps[i] ≠ ps'[i] → (ps.take k == ps'.take k) = false := fun e => beq_eq_false_iff_ne.2 (fun e2 => e (by
        have h1 := congrArg (fun l => l[i]?) e2
        simp only [List.getElem?_take, if_pos hlt] at h1
        rw [List.getElem?_eq_getElem hia, List.getElem?_eq_getElem hib] at h1
        exact Option.some.inj h1))
      have Htake := Lib.hid htake
      have Hne := Lib.hid hne
      clear htake hne
      generalize ps[i] = x at *
      generalize ps'[i] = y at *
      go_wp2_with fail
      apply wp_region_lex (R := Ext) (by kernel_rfl) (by kernel_rfl) Ext.refl (fun _ _ _ => Ext.trans) (Ext.drew _)
      repeat
        apply lex_ex Ext.refl
        · rfl
        · intro W' hR hΦ
          have y0 := hR.cell c0
          have y3 := hR.cell c3
          have y6 := hR.cell q0
          have y7 := hR.cell q1
          have z1 := run_string_of (P := Try.prog) W' 43 9 5 Try.underlying43 Try.underlying5 Try.underlying9 Ai ni ci x (hra.ext hR)
          have z2 := run_string_of (P := Try.prog) W' 43 9 5 Try.underlying43 Try.underlying5 Try.underlying9 Bi mi di y (hrb.ext hR)
          go_simp
          first | done | with_reducible rfl
        simp only [Act.put, List.setIfInBounds_toArray, List.set_cons_zero, List.set_cons_succ]
      refine lex_nil ?_
      intro W5 hR5 hΦ
      clear hΦ
      have x5 := (eV.trans he).trans hR5
      have hqq : (x != y) = !(x == y) := rfl
      cases hxy : x == y
      · have hf := Hne.out (beq_eq_false_iff_ne.1 hxy)
        have Hf := Lib.hid hf
        have hx2 : (x != y) = true := by rw [hqq, hxy]; rfl
        clear hf hqq
        go_wp2_with fail
        go_ret
        exact ⟨by rw [Hf.out]; rfl, x5⟩
      · have ht := Htake.out (beq_iff_eq.1 hxy)
        have Ht := Lib.hid ht
        have hx2 : (x != y) = false := by rw [hqq, hxy]; rfl
        clear ht hqq
        go_wp2_with fail
        go_roundw
        case rel => exact ⟨i + 1, by go_num, hlt, Ht.out, he.trans hR5⟩
        case measure => simp [intOf]; omega
    · have hd : decide (i < k) = false := decide_eq_false hlt
      obtain rfl : i = k := by omega
      have hE : (ps.take i == ps'.take i) = true := beq_iff_eq.2 Htk.out
      have HE := Lib.hid hE
      clear hE
      have hrg := (hg.ext eV).ext he
      have hrg' := (hg'.ext eV).ext he
      have eX : Ext w wr := eV.trans he
      have z1 := run_string_of (P := Try.prog) wr 43 9 5 Try.underlying43 Try.underlying5 Try.underlying9 B m d g hrg
      have z2 := run_string_of (P := Try.prog) wr 43 9 5 Try.underlying43 Try.underlying5 Try.underlying9 B' m' d' g' hrg'
      clear hrg hrg' hk hk' hi e1 e3 e4 e5 e6
      go_wp2_with fail
      go_ret
      exact ⟨by rw [HE.out]; rfl, eX⟩
theorem ragree_any (w : World) (A : Option Addr) (n c : Nat) (f : Int) (B : Option Addr) (m d : Nat) (A' : Option Addr) (n' c' : Nat) (f' : Int) (B' : Option Addr) (m' d' : Nat) (ps ps' : List (List UInt8)) (g g' : List UInt8)
    (hp : Rp w A n c ps) (hg : Rb w B m d g) (hp' : Rp w A' n' c' ps') (hg' : Rb w B' m' d' g') :
    Calls Try.prog 24 #[tAgg A n c f B m d, tAgg A' n' c' f' B' m' d'] w (IsB w (agreeT (ps, f, g) (ps', f', g'))) := by
  have hn := hp.len
  have hn' := hp'.len
  by_cases h : f < 0 ∨ f' < 0 ∨ (n : Int) < f ∨ (n' : Int) < f'
  · rw [agreeT_no (by unfold mayT; simp only [← hn, ← hn', Bool.and_eq_false_iff, decide_eq_false_iff_not]; omega)]
    exact ragree_no w A n c f B m d A' n' c' f' B' m' d' h
  · obtain ⟨k, rfl⟩ := Int.eq_ofNat_of_zero_le (show 0 ≤ f by omega)
    obtain ⟨k', rfl⟩ := Int.eq_ofNat_of_zero_le (show 0 ≤ f' by omega)
    have m1 : mayT (ps, (k : Int), g) = true := by unfold mayT; simp; omega
    have m2 : mayT (ps', (k' : Int), g') = true := by unfold mayT; simp; omega
    unfold agreeT
    rw [m1, m2]
    rcases Nat.lt_trichotomy k k' with hc | hc | hc
    · rw [show (min (k : Int) (k' : Int)).toNat = k by omega]
      exact ragree_lt w A n c k B m d A' n' c' k' B' m' d' ps ps' g g' hp hg hp' hg' (by omega) (by omega) hc
    · subst hc
      rw [show (min (k : Int) (k : Int)).toNat = k by omega]
      have := ragree_eq w A n c k B m d A' n' c' B' m' d' ps ps' g g' hp hg hp' hg' (by omega) (by omega)
      simpa using this
    · rw [show (min (k : Int) (k' : Int)).toNat = k' by omega]
      exact ragree_gt w A n c k B m d A' n' c' k' B' m' d' ps ps' g g' hp hg hp' hg' (by omega) (by omega) hc
end Go.Proofs.Ytihegdjdgklbgaa
