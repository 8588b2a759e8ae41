/- Sheets of the document's in memory; the walk of law10.same. Printed by wip/gen/mkpg.py. -/
import Derived.Test.YtdhmmhbmgobibaaPageB
namespace Go.Proofs.Ytdhmmhbmgobibaa
open Go.RowKit
set_option linter.unusedVariables false

/-- The sheet of a page by its number; the one of number 0 is nobody's. -/
def sr (rf : Nat → Int) : Nat → Int
  | 0 => 0
  | k + 1 => rf k
def sv (vs : Nat → Nat → Int) : Nat → Nat → Int
  | 0 => fun _ => 0
  | k + 1 => vs k
structure Sheets (w : World) (lb n : Nat) (rf : Nat → Int) (vs : Nat → Nat → Int) : Prop where
  refs : ∀ p, p ≤ n → w.cell? ⟨lb, p * 9, none⟩ = some (.int .i64 (sr rf p))
  vals : ∀ p i, p ≤ n → i < 8 → w.cell? ⟨lb, p * 9 + (i + 1), none⟩ = some (.int .i32 (sv vs p i))
  free : ∀ o, w.frozen? ⟨lb, o, none⟩ = false
  lt : lb < w.heap.size
theorem Sheets.ext {w w' : World} {lb n : Nat} {rf : Nat → Int} {vs : Nat → Nat → Int} (h : Sheets w lb n rf vs) (e : Ext w w') : Sheets w' lb n rf vs :=
  ⟨fun p hp => e.cell (h.refs p hp), fun p i hp hi => e.cell (h.vals p i hp hi), fun o => (Below.frozen e (p := ⟨lb, o, none⟩) h.lt).trans (h.free o), Nat.lt_of_lt_of_le h.lt e.size⟩
def smOuter (w : World) (n : Nat) (rf : Nat → Int) (uv pv : Value) (wr : World) : Prop := ∃ p : Nat, uv = .int .i64 (used (min (p - 1) n) rf : Nat) ∧ pv = .int .i64 (p : Nat) ∧ p ≤ n + 2 ∧ Ext w wr
def smInner (V : World) (iv : Value) (wr : World) : Prop := ∃ x : Int, iv = .int .i64 x ∧ -1 ≤ x ∧ x ≤ 9 ∧ Ext V wr
section
variable {w : World} {b g n lb : Nat} {rf : Nat → Int} {vs : Nat → Nat → Int}
set_option maxRecDepth 100000 in
set_option maxHeartbeats 4000000 in
theorem same_any (h : Room w b g n rf vs) (s : Sheets w lb n rf vs) (hpos : ∀ k, k < n → 0 ≤ rf k) :
    Calls Try.prog 15 #[.pointer (some ⟨b, 0, none⟩), .slice (some ⟨lb, 0, none⟩) (n + 1) (n + 1)] w (Yes w) := by
  have hs := h.small
  have H := Lib.hid h
  have S := Lib.hid s
  have Hpos := Lib.hid hpos
  clear h s hpos
  go_enter Try.func15, Try.ntmps15
  go_wp2_with fail
  go_loopw [5, 6] (fun uv pv wr => smOuter w n rf uv pv wr) (fun _ pv _ => n + 2 - (intOf pv).toNat)
  case atStart => exact ⟨0, by simp [used], rfl, by omega, Ext.refl _⟩
  case round =>
    obtain ⟨p, rfl, rfl, hp, he⟩ := hrel
    have hul := used_le (min (p - 1) n) rf
    by_cases hpn : p ≤ n
    · have hd1 : decide (p ≤ n + 1) = true := decide_eq_true (by omega)
      have hd1' : decide ((p : Int) ≤ (n : Int) + 1) = true := decide_eq_true (by omega)
      have hd2 : decide (p < n + 1) = true := decide_eq_true (by omega)
      have hd2' : decide ((p : Int) < (n : Int) + 1) = true := decide_eq_true (by omega)
      have hd2'' : decide (p ≤ n) = true := decide_eq_true hpn
      have hix : (0 : Int) ≤ (p : Int) ∧ (p : Int) < (n : Int) + 1 := by omega
      have hix2 : p < n + 1 := by omega
      have S2 := (S.out.ext he).ext (Ext.alloc wr (.cells #[.int .i64 0, .int .i32 0, .int .i32 0, .int .i32 0, .int .i32 0, .int .i32 0, .int .i32 0, .int .i32 0, .int .i32 0] 31))
      have c0 := S2.refs p hpn
      have c1 := S2.vals p 0 hpn (by decide)
      have c2 := S2.vals p 1 hpn (by decide)
      have c3 := S2.vals p 2 hpn (by decide)
      have c4 := S2.vals p 3 hpn (by decide)
      have c5 := S2.vals p 4 hpn (by decide)
      have c6 := S2.vals p 5 hpn (by decide)
      have c7 := S2.vals p 6 hpn (by decide)
      have c8 := S2.vals p 7 hpn (by decide)
      simp only [Nat.zero_add, Nat.reduceAdd] at c1 c2 c3 c4 c5 c6 c7 c8
      clear S2
      rcases found_or (n := n) rf (p : Int) with ⟨k, hf⟩ | hf
      · have hpk : p = k + 1 := by have := hf.2.1; omega
        have hrk : 0 < sr rf p := by rw [hpk]; have := Hpos.out k hf.1; have := hf.2.2; show 0 < rf k; omega
        have hvk : vs k = sv vs p := by rw [hpk]; rfl
        have hrr : rf k = sr rf p := by rw [hpk]; rfl
        have hu : used (min (p + 1 - 1) n) rf = used (min (p - 1) n) rf + 1 := by
          have := hf.1
          rw [show min (p + 1 - 1) n = k + 1 by omega, show min (p - 1) n = k by omega, used_succ, if_pos (by rw [hrr]; exact hrk)]
        have hget := fun W (e : Ext w W) (i : Nat) (hi : i < 8) => get_yes (H.out.ext e) hf hi
        have hgno := fun W (e : Ext w W) (i : Int) (hi : i < 0 ∨ 8 ≤ i) => get_no (H.out.ext e) (by omega) (by omega) i (.inr ⟨⟨k, hf⟩, hi⟩)
        have hrf := fun W (e : Ext w W) => refs_yes (H.out.ext e) hf
        rw [hvk] at hget
        rw [hrr] at hrf
        have Hget := Lib.hid hget
        have Hgno := Lib.hid hgno
        have Hrf := Lib.hid hrf
        have Hu := Lib.hid hu
        clear hget hgno hrf hf hu hvk hrr hpk
        generalize used (min (p - 1) n) rf = U at *
        generalize sv vs p = u at *
        generalize sr rf p = r at *
        have hd3 : decide (0 < r) = true := decide_eq_true hrk
        go_wp2_with fail
        clear c0 c1 c2 c3 c4 c5 c6 c7 c8
        generalize hV : World.alloc wr _ = V
        have eV : Ext wr V := by subst hV; exact Ext.alloc _ _
        have s0 : V.cell? ⟨wr.heap.size, 0, none⟩ = some (.int .i64 r) := by subst hV; go_simp
        have hsv : ∀ i, i < 8 → V.cell? ⟨wr.heap.size, 1 + i, none⟩ = some (.int .i32 (u i)) := by
          subst hV
          intro i hi
          match i, hi with
          | 0, _ => go_simp
          | 1, _ => go_simp
          | 2, _ => go_simp
          | 3, _ => go_simp
          | 4, _ => go_simp
          | 5, _ => go_simp
          | 6, _ => go_simp
          | 7, _ => go_simp
        have Hsv := Lib.hid hsv
        clear hsv
        clear hV
        generalize wr.heap.size = sb at *
        go_loopw [8] (fun iv wr2 => smInner V iv wr2) (fun iv _ => (9 - intOf iv).toNat)
        case atStart => exact ⟨-1, rfl, by omega, by omega, Ext.refl _⟩
        case round =>
          obtain ⟨x, rfl, hx0, hx1, e2⟩ := hrel
          have q0 := e2.cell s0
          by_cases hx9 : x = 9
          · subst hx9
            have Hre := Lib.hid (fun W (e : Ext _ W) => Hrf.out W ((he.trans eV).trans (e2.trans e)))
            go_wp2_with fail
            apply wp_region_lex (R := Ext) (by kernel_rfl) (by kernel_rfl) Ext.refl (fun _ _ _ => Ext.trans) (Ext.drew _)
            repeat
              apply lex_ex Ext.refl
              · rfl
              · intro W' hR hΦ
                have y0 := hR.cell q0
                go_simp
                first | done | with_reducible rfl
              simp only [Act.put, List.setIfInBounds_toArray, List.set_cons_zero, List.set_cons_succ]
            apply lex_callx
            · rfl
            · intro W'
              go_simp
              exact ⟨rfl, rfl⟩
            · intro W' hR hΦ
              refine (Hre.out W' hR).mono ?_
              rintro e w' ⟨rfl, rfl⟩
              exact ⟨rfl, Ext.refl _⟩
            simp only [Act.put, List.setIfInBounds_toArray, List.set_cons_zero, List.set_cons_succ]
            repeat
              apply lex_ex Ext.refl
              · rfl
              · intro W' hR hΦ
                have y0 := hR.cell q0
                go_simp
                first | done | with_reducible rfl
              simp only [Act.put, List.setIfInBounds_toArray, List.set_cons_zero, List.set_cons_succ]
            refine lex_nil ?_
            intro W5 hR5 hΦ
            clear hΦ
            go_wp2_with fail
            go_roundw
            case rel => exact ⟨p + 1, by rw [Hu.out] <;> first | rfl | go_num, by go_num, by first | omega | (have := Hp1.out; omega), (he.trans eV).trans (e2.trans hR5)⟩
            case measure => simp [intOf]; first | omega | (have := Hp1.out; omega)
          · by_cases hxm : x = -1
            · subst hxm
              go_wp2_with fail
              refine (Hgno.out _ ((he.trans eV).trans e2) (-1) (by omega)).mono ?_
              rintro e w5 ⟨rfl, rfl⟩
              go_wp2_with fail
              go_roundw
              case rel => exact ⟨0, by first | rfl | go_num, by omega, by omega, e2⟩
              case measure => simp [intOf] <;> omega
            · by_cases hx8 : x = 8
              · subst hx8
                go_wp2_with fail
                refine (Hgno.out _ ((he.trans eV).trans e2) 8 (by omega)).mono ?_
                rintro e w5 ⟨rfl, rfl⟩
                go_wp2_with fail
                go_roundw
                case rel => exact ⟨9, by first | rfl | go_num, by omega, by omega, e2⟩
                case measure => simp [intOf] <;> omega
              · obtain ⟨i, rfl⟩ := Int.eq_ofNat_of_zero_le (show 0 ≤ x by omega)
                have hi8 : i < 8 := by omega
                have q1 := e2.cell (Hsv.out i hi8)
                have d5 : decide ((i : Int) < 8) = true := decide_eq_true (by omega)
                have d6 : decide (i < 8) = true := decide_eq_true hi8
                have d7 : decide ((i : Int) ≤ 8) = true := decide_eq_true (by omega)
                have d8 : decide (i ≤ 8) = true := decide_eq_true (by omega)
                have hix9 : (0 : Int) ≤ (i : Int) ∧ (i : Int) < 8 := by omega
                go_wp2_with fail
                refine (Hget.out _ ((he.trans eV).trans e2) i hi8).mono ?_
                rintro e w5 ⟨rfl, rfl⟩
                go_wp2_with fail
                go_roundw
                case rel => exact ⟨(i : Int) + 1, by first | rfl | go_num, by omega, by omega, e2⟩
                case measure => simp [intOf] <;> omega
      · have hr0 : sr rf p = 0 := by
          cases p with
          | zero => rfl
          | succ k =>
            rcases hf with hf | hf | ⟨k', hk', e, hf⟩
            · omega
            · omega
            · obtain rfl : k' = k := by omega
              exact hf
        have hu : used (min (p + 1 - 1) n) rf = used (min (p - 1) n) rf := by
          cases p with
          | zero => simp
          | succ k =>
            rw [show min (k + 1 + 1 - 1) n = k + 1 by omega, show min (k + 1 - 1) n = k by omega, used_succ, if_neg (by show ¬ 0 < sr rf (k + 1); omega)]
            rfl
        have hgno := fun W (e : Ext w W) (i : Int) => get_no (H.out.ext e) (by omega) (by omega) i (.inl hf)
        have hrf := fun W (e : Ext w W) => refs_no (H.out.ext e) (by omega) (by omega) hf
        have Hgno := Lib.hid hgno
        have Hrf := Lib.hid hrf
        have Hu := Lib.hid hu
        rw [hr0] at c0
        clear hgno hrf hf hu hr0
        generalize used (min (p - 1) n) rf = U at *
        generalize sv vs p = u at *
        go_wp2_with fail
        clear c0 c1 c2 c3 c4 c5 c6 c7 c8
        generalize hV : World.alloc wr _ = V
        have eV : Ext wr V := by subst hV; exact Ext.alloc _ _
        have s0 : V.cell? ⟨wr.heap.size, 0, none⟩ = some (.int .i64 0) := by subst hV; go_simp
        clear hV
        generalize wr.heap.size = sb at *
        go_loopw [8] (fun iv wr2 => smInner V iv wr2) (fun iv _ => (9 - intOf iv).toNat)
        case atStart => exact ⟨-1, rfl, by omega, by omega, Ext.refl _⟩
        case round =>
          obtain ⟨x, rfl, hx0, hx1, e2⟩ := hrel
          have q0 := e2.cell s0
          by_cases hx9 : x = 9
          · subst hx9
            have Hre := Lib.hid (fun W (e : Ext _ W) => Hrf.out W ((he.trans eV).trans (e2.trans e)))
            go_wp2_with fail
            apply wp_region_lex (R := Ext) (by kernel_rfl) (by kernel_rfl) Ext.refl (fun _ _ _ => Ext.trans) (Ext.drew _)
            repeat
              apply lex_ex Ext.refl
              · rfl
              · intro W' hR hΦ
                have y0 := hR.cell q0
                go_simp
                first | done | with_reducible rfl
              simp only [Act.put, List.setIfInBounds_toArray, List.set_cons_zero, List.set_cons_succ]
            apply lex_callx
            · rfl
            · intro W'
              go_simp
              exact ⟨rfl, rfl⟩
            · intro W' hR hΦ
              refine (Hre.out W' hR).mono ?_
              rintro e w' ⟨rfl, rfl⟩
              exact ⟨rfl, Ext.refl _⟩
            simp only [Act.put, List.setIfInBounds_toArray, List.set_cons_zero, List.set_cons_succ]
            repeat
              apply lex_ex Ext.refl
              · rfl
              · intro W' hR hΦ
                have y0 := hR.cell q0
                go_simp
                first | done | with_reducible rfl
              simp only [Act.put, List.setIfInBounds_toArray, List.set_cons_zero, List.set_cons_succ]
            refine lex_nil ?_
            intro W5 hR5 hΦ
            clear hΦ
            go_wp2_with fail
            go_roundw
            case rel => exact ⟨p + 1, by rw [Hu.out] <;> first | rfl | go_num, by go_num, by first | omega | (have := Hp1.out; omega), (he.trans eV).trans (e2.trans hR5)⟩
            case measure => simp [intOf]; first | omega | (have := Hp1.out; omega)
          · have d7 : decide (x ≤ 8) = true := decide_eq_true (by omega)
            go_wp2_with fail
            refine (Hgno.out _ ((he.trans eV).trans e2) x).mono ?_
            rintro e w5 ⟨rfl, rfl⟩
            go_wp2_with fail
            go_roundw
            case rel => exact ⟨x + 1, by first | rfl | go_num, by omega, by omega, e2⟩
            case measure => simp [intOf] <;> omega
    · by_cases hp1 : p = n + 1
      · have hd1 : decide (p ≤ n + 1) = true := decide_eq_true (by omega)
        have hd1' : decide ((p : Int) ≤ (n : Int) + 1) = true := decide_eq_true (by omega)
        have hd2 : decide (p < n + 1) = false := decide_eq_false (by omega)
        have hd2' : decide ((p : Int) < (n : Int) + 1) = false := decide_eq_false (by omega)
        have hd2'' : decide (p ≤ n) = false := decide_eq_false hpn
        have hf : Lost n rf (p : Int) := .inr (.inl (by omega))
        have hgno := fun W (e : Ext w W) (i : Int) => get_no (H.out.ext e) (by omega) (by omega) i (.inl hf)
        have hrf := fun W (e : Ext w W) => refs_no (H.out.ext e) (by omega) (by omega) hf
        have hu : used (min (p + 1 - 1) n) rf = used (min (p - 1) n) rf := by rw [show min (p + 1 - 1) n = n by omega, show min (p - 1) n = n by omega]
        have Hgno := Lib.hid hgno
        have Hrf := Lib.hid hrf
        have Hu := Lib.hid hu
        have Hp1 := Lib.hid hp1
        clear hgno hrf hf hu hp1
        generalize used (min (p - 1) n) rf = U at *
        go_wp2_with fail
        generalize hV : World.alloc wr _ = V
        have eV : Ext wr V := by subst hV; exact Ext.alloc _ _
        have s0 : V.cell? ⟨wr.heap.size, 0, none⟩ = some (.int .i64 0) := by subst hV; go_simp
        clear hV
        generalize wr.heap.size = sb at *
        go_loopw [8] (fun iv wr2 => smInner V iv wr2) (fun iv _ => (9 - intOf iv).toNat)
        case atStart => exact ⟨-1, rfl, by omega, by omega, Ext.refl _⟩
        case round =>
          obtain ⟨x, rfl, hx0, hx1, e2⟩ := hrel
          have q0 := e2.cell s0
          by_cases hx9 : x = 9
          · subst hx9
            have Hre := Lib.hid (fun W (e : Ext _ W) => Hrf.out W ((he.trans eV).trans (e2.trans e)))
            go_wp2_with fail
            apply wp_region_lex (R := Ext) (by kernel_rfl) (by kernel_rfl) Ext.refl (fun _ _ _ => Ext.trans) (Ext.drew _)
            repeat
              apply lex_ex Ext.refl
              · rfl
              · intro W' hR hΦ
                have y0 := hR.cell q0
                go_simp
                first | done | with_reducible rfl
              simp only [Act.put, List.setIfInBounds_toArray, List.set_cons_zero, List.set_cons_succ]
            apply lex_callx
            · rfl
            · intro W'
              go_simp
              exact ⟨rfl, rfl⟩
            · intro W' hR hΦ
              refine (Hre.out W' hR).mono ?_
              rintro e w' ⟨rfl, rfl⟩
              exact ⟨rfl, Ext.refl _⟩
            simp only [Act.put, List.setIfInBounds_toArray, List.set_cons_zero, List.set_cons_succ]
            repeat
              apply lex_ex Ext.refl
              · rfl
              · intro W' hR hΦ
                have y0 := hR.cell q0
                go_simp
                first | done | with_reducible rfl
              simp only [Act.put, List.setIfInBounds_toArray, List.set_cons_zero, List.set_cons_succ]
            refine lex_nil ?_
            intro W5 hR5 hΦ
            clear hΦ
            go_wp2_with fail
            go_roundw
            case rel => exact ⟨p + 1, by rw [Hu.out] <;> first | rfl | go_num, by go_num, by first | omega | (have := Hp1.out; omega), (he.trans eV).trans (e2.trans hR5)⟩
            case measure => simp [intOf]; first | omega | (have := Hp1.out; omega)
          · have d7 : decide (x ≤ 8) = true := decide_eq_true (by omega)
            go_wp2_with fail
            refine (Hgno.out _ ((he.trans eV).trans e2) x).mono ?_
            rintro e w5 ⟨rfl, rfl⟩
            go_wp2_with fail
            go_roundw
            case rel => exact ⟨x + 1, by first | rfl | go_num, by omega, by omega, e2⟩
            case measure => simp [intOf] <;> omega
      · have hd1 : decide (p ≤ n + 1) = false := decide_eq_false (by omega)
        have hd1' : decide ((p : Int) ≤ (n : Int) + 1) = false := decide_eq_false (by omega)
        have hun : used (min (p - 1) n) rf = used n rf := by rw [show min (p - 1) n = n by omega]
        have hus := used_any (H.out.ext he)
        rw [hun]
        clear hun
        generalize used n rf = U at *
        have Hus := Lib.hid hus
        clear hus
        go_wp2_with fail
        refine Hus.out.mono ?_
        rintro e w8 ⟨rfl, e8⟩
        go_wp2_with fail
        go_ret
        exact ⟨by simp, he.trans e8⟩
end
end Go.Proofs.Ytdhmmhbmgobibaa
