/- The walk of asm.Parse. -/
import Derived.Test.YtbmgiidecidojaaDoorAsmO
namespace Go.Proofs.YtbmgiidecidojaaDoor
open Go.RowKit

theorem pf_blank (r : List (List UInt8)) (i : Nat) (t : Option (List UInt8)) (ops : List OpT) : parseF ([] :: r) i t ops = parseF r (i + 1) t ops := by
  cases t <;> rw [parseF, if_pos rfl]
theorem pf_ttl {x : List UInt8} (hx : x ≠ []) (r : List (List UInt8)) (i : Nat) (ops : List OpT) : parseF (x :: r) i none ops = match ttlL x with | none => .inl (i + 1) | some t => parseF r (i + 1) (some t) ops := by
  rw [parseF, if_neg hx]; rfl
theorem pf_op {x : List UInt8} (hx : x ≠ []) (r : List (List UInt8)) (i : Nat) (t : List UInt8) (ops : List OpT) : parseF (x :: r) i (some t) ops = match opL x with | none => .inl (i + 1) | some o => if 64 ≤ ops.length then .inl (i + 1) else parseF r (i + 1) (some t) (ops ++ [o]) := by
  rw [parseF, if_neg hx]; rfl
theorem skipB_first : ∀ l : List UInt8, skipB l ≠ [] → blank ((skipB l).getD 0 0) = false
  | [], h => (h rfl).elim
  | b :: t, h => by
    unfold skipB at h ⊢
    rw [List.dropWhile_cons] at h ⊢
    by_cases hb : blank b = true
    · rw [if_pos hb] at h ⊢
      exact skipB_first t h
    · rw [if_neg hb]
      simpa using hb
theorem endB_pre (l : List UInt8) : endB l <+: l := by
  unfold endB
  have := List.reverse_prefix.mpr (List.dropWhile_suffix (l := l.reverse) blank)
  rwa [List.reverse_reverse] at this
theorem bareL_first {y : List UInt8} (h : bareL y ≠ []) : blank ((bareL y).getD 0 0) = false := by
  unfold bareL at h ⊢
  obtain ⟨s, hs⟩ := endB_pre (skipB (cutH y))
  obtain ⟨b, t, hbt⟩ := List.exists_cons_of_ne_nil h
  rw [hbt] at hs ⊢
  have h2 := skipB_first (cutH y) (by rw [← hs]; simp)
  rw [← hs] at h2
  exact h2
theorem line_words {l x : List UInt8} (hx : x ∈ linesL l) (h : x ≠ []) : wordsL x ≠ [] := by
  obtain ⟨y, hy, rfl⟩ := List.mem_map.mp hx
  exact words_ne h (bareL_first h)

/-- What Parse leaves. -/
def ParseOf (w : World) (R : Nat ⊕ (List UInt8 × List OpT)) (e : Ending) (w' : World) : Prop :=
  (∃ n : Nat, R = .inl n ∧ e = .returned (.tuple #[pAgg [] none 0 0, .int .i64 (n : Nat), .int .i64 1]) ∧ Ext w w') ∨
  (∃ t l, R = .inr (t, l) ∧ ∃ B m d, e = .returned (.tuple #[pAgg t B m d, .int .i64 0, .int .i64 0]) ∧ Own w' w.heap.size 39 4 B m d (opcs l) ∧ Ext w w')
def asRel (w : World) (L : List (List UInt8)) (R : Nat ⊕ (List UInt8 × List OpT)) (A : Option Addr) (c hb : Nat) (bg iv : Value) (wr : World) : Prop :=
  ∃ (k : Nat) (t : Option (List UInt8)) (ops : List OpT) (B : Option Addr) (m d : Nat), bg = .bool t.isSome ∧ iv = .int .i64 (k : Nat) ∧ k ≤ L.length ∧ RowKit.Hid (parseF (L.drop k) k t ops = R) ∧
    Grow wr (w.heap.size + 1) (w.heap.size + 1) (t.getD []) B m d ops ∧ PBox wr w.heap.size [] none 0 0 ∧ Ws wr A L.length c L ∧ Ext w wr ∧ (∀ j, blk B = some j → hb ≤ j) ∧ hb ≤ wr.heap.size ∧ (t = none → ops = []) ∧ ops.length ≤ 64

set_option maxRecDepth 100000 in
set_option maxHeartbeats 8000000 in
theorem aparse_any (w : World) (l : List UInt8) (hl : l.length ≤ 1099511627776) :
    Calls Tryd.prog 11 #[.string (bs l)] w (ParseOf w (parseL l)) := by
  obtain ⟨i0, hi, hz0, hz1, hz2⟩ := info_parts info_op
  have HR : RowKit.Hid (parseF (linesL l) 0 none [] = parseL l) := Lib.hid rfl
  have HL : RowKit.Hid (∀ x ∈ linesL l, x.length ≤ 1099511627776 ∧ (x ≠ [] → wordsL x ≠ [])) := Lib.hid fun x hx => ⟨Nat.le_trans (lines_le hx) hl, line_words hx⟩
  have hLl : (linesL l).length ≤ 1099511627777 := by
    have := split_len l []
    simp [linesL]; omega
  obtain ⟨R, hR⟩ : ∃ R, parseL l = R := ⟨_, rfl⟩
  rw [hR] at HR
  rw [hR]
  clear hR
  go_enter Tryd.func11, Tryd.ntmps11
  go_wp2_with fail
  generalize hW0 : World.alloc (World.alloc w _) _ = W0
  have x0 : Ext w W0 := by subst hW0; exact (Ext.alloc _ _).trans (Ext.alloc _ _)
  have hp0 : PBox W0 w.heap.size [] none 0 0 := by subst hW0; exact (PBox.new _ _ _ _ _ _ rfl).ext (Ext.alloc _ _)
  have hG0 : Grow W0 (w.heap.size + 1) (w.heap.size + 1) [] none 0 0 [] := by subst hW0; exact Grow.start _ _ _ (by simp)
  clear hW0
  refine (lines_any W0 l hl).mono ?_
  rintro e w1 ⟨A, c, base, rfl, hbase, ho, e1⟩
  have hws : Ws w1 A (linesL l).length c (linesL l) := ho.rd
  have hAb : ∀ a, A = some a → W0.heap.size ≤ a.block ∧ a.block < w1.heap.size := fun a ha => by
    have := ho.base_le a ha; omega
  have hg0 := hG0.1.lt
  have hp1 := hp0.ext e1
  have hG1 := hG0.ext e1
  have x1 := x0.trans e1
  clear hp0 hG0 x0 e1 ho hbase
  generalize linesL l = L at *
  obtain ⟨hb, hhb⟩ : ∃ hb, w1.heap.size = hb := ⟨_, rfl⟩
  rw [hhb] at hAb
  have hhb2 : hb ≤ w1.heap.size := by omega
  have hgb : w.heap.size + 1 < hb := by have := hG1.1.lt; omega
  have hgA : ∀ a, A = some a → (some (w.heap.size + 1) : Option Nat) ≠ some a.block := fun a ha e => by have := (hAb a ha).1; have := Option.some.inj e; omega
  have hLl2 : L.length ≤ 1099511627777 := hLl
  clear hhb
  go_wp2_with fail
  go_loopw [6, 14] (fun bg iv wr => asRel w L R A c hb bg iv wr) (fun _ iv _ => L.length - (intOf iv).toNat)
  case atStart => exact ⟨0, none, [], none, 0, 0, rfl, rfl, Nat.zero_le _, HR, hG1, hp1, hws, x1, (fun j hj => by cases hj), hhb2, fun _ => rfl, by simp⟩
  case round =>
    obtain ⟨k, t, ops, B, m, d, rfl, rfl, hk, hpf, hG, hP, hW, X, hBb, hsz, htn, h64⟩ := hrel
    have Hp := Lib.hid hpf.out
    have Hhb := Lib.hid hBb
    have Htn := Lib.hid htn
    have Hw := Lib.hid hW
    have hm := hG.len
    clear hpf hBb htn hW hG1 hp1 hws x1 hhb2
    by_cases hlt : k < L.length
    · obtain ⟨b, o, hAe, hc⟩ := Hw.out.at_ hlt
      have Hx := Lib.hid (HL.out _ (List.getElem_mem hlt))
      have hpf := Hp.out
      rw [List.drop_eq_getElem_cons hlt] at hpf
      subst hAe
      generalize L[k] = x at *
      have hki : (0 : Int) ≤ (k : Int) ∧ (k : Int) < L.length := by omega
      have hk1 : IntKind.i64.wrap ((k : Int) + 1) = (k : Int) + 1 := by rw [IntKind.wrap_i64]; omega
      by_cases hxe : x = []
      · subst hxe
        rw [pf_blank] at hpf
        have Hpf := Lib.hid hpf
        clear hpf
        go_wp2_with fail
        go_roundw
        case rel => exact ⟨k + 1, t, ops, B, m, d, rfl, by go_num, hlt, Hpf, hG, hP, Hw.out, X, Hhb.out, hsz, Htn.out, h64⟩
        case measure => simp [intOf]; omega
      · have hce : x.isEmpty = false := by cases x <;> simp at hxe ⊢
        have hxl := Hx.out.1
        have Hxw := Lib.hid (Hx.out.2 hxe)
        obtain ⟨p0, p1, p2, p3⟩ := id hG.1
        cases t with
        | none =>
          rw [pf_ttl hxe] at hpf
          have Hpf := Lib.hid hpf
          have Hxe := Lib.hid hxe
          clear hpf hxe p0 p1 p2 p3
          go_wp2_with fail
          refine (atitle_any wr x hxl).mono ?_
          rintro e w2 ⟨t', rfl, htt, e2⟩
          have G2 := hG.ext e2
          have P2 := hP.ext e2
          have W2 := Lib.hid (Hw.out.ext e2)
          have X2 := X.trans e2
          have hsz2 := e2.size
          have Htt := Lib.hid htt
          obtain ⟨p0, p1, p2, p3⟩ := id G2.1
          obtain ⟨q0, q1, q2, q3⟩ := id P2
          obtain rfl : ops = [] := by first | exact Htn.out rfl | exact Htn.out trivial
          clear hG hP Hw X e2 htt
          cases htl : ttlL x with
          | none =>
            have hR := Hpf.out
            rw [htl] at hR
            have HR := Lib.hid hR
            clear hR Htt Hpf htl
            go_wp2_with fail
            have xe := X2.setCell (p := ⟨w.heap.size + 1, 0, none⟩) (Nat.le_succ _) (.string (bs t'))
            exact bodyPost_ret (v := .tuple #[pAgg [] none 0 0, .int .i64 ((k : Int) + 1), .int .i64 1]) (by unfold pAgg; simp [results, Tryd.results11, go_sem, q0, q1]; rfl) rfl (.inl ⟨k + 1, HR.out.symm, by go_num, (xe.setCell (Nat.le_refl _) _).setCell (Nat.le_refl _) _⟩)
          | some tt =>
            have hR := Hpf.out
            rw [htl] at hR
            have HR := Lib.hid hR
            obtain rfl := Htt.out tt htl
            clear hR Htt Hpf htl
            go_wp2_with fail
            go_roundw
            case rel =>
              refine ⟨k + 1, some t', [], B, m, d, rfl, by go_num, hlt, HR, ⟨G2.1.setT t', G2.2.1.kept (grownSet (g := w.heap.size + 1) w2 ⟨w.heap.size + 1, 0, none⟩ rfl _) (.inr G2.2.2.1), G2.2.2⟩, P2.grown (grownSet (g := w.heap.size + 1) w2 ⟨w.heap.size + 1, 0, none⟩ rfl _) (some_ne (by omega)), W2.out.grown (grownSet (g := w.heap.size + 1) w2 ⟨w.heap.size + 1, 0, none⟩ rfl _) hgA, X2.setCell (p := ⟨w.heap.size + 1, 0, none⟩) (Nat.le_succ _) _, Hhb.out, by simp [World.setCell]; omega, (fun h => by cases h), by simp⟩
            case measure => simp [intOf]; omega
        | some tt =>
          rw [pf_op hxe] at hpf
          have Hpf := Lib.hid hpf
          have Hxe := Lib.hid hxe
          clear hpf hxe p0 p1 p2 p3
          have hcall := operation_any wr x hxl Hxw.out
          cases hop : opL x with
          | none =>
            have hR := Hpf.out
            rw [hop] at hR
            have HR := Lib.hid hR
            clear hR Hpf
            rw [hop] at hcall
            unfold OpOf opAgg at hcall
            simp only [Option.getD_none, Option.isSome_none] at hcall
            go_wp2_with fail
            refine hcall.mono ?_
            rintro e w2 ⟨rfl, e2⟩
            clear hcall
            have G2a := hG.ext e2
            have P2a := hP.ext e2
            have W2a := Hw.out.ext e2
            have X2a := X.trans e2
            have hsz2 := e2.size
            have hBlt : ∀ k, blk B = some k → k < w2.heap.size := fun k e => by
              obtain ⟨ad, h3, h4⟩ := Option.map_eq_some_iff.1 e
              have := (G2a.2.1.base_le ad h3).2
              omega
            have HBlt := Lib.hid hBlt
            clear hG hP Hw X e2 hBlt
            clear hop
            go_upto_region 12 with fail
            generalize hV1 : World.alloc w2 _ = V1
            have eV1 : Ext w2 V1 := by subst hV1; exact Ext.alloc _ _
            have G2 := G2a.ext eV1
            have P2 := P2a.ext eV1
            have W2 := Lib.hid (W2a.ext eV1)
            have X2 := X2a.trans eV1
            have hsz3 := eV1.size
            clear hV1
            obtain ⟨p0, p1, p2, p3⟩ := id G2.1
            obtain ⟨q0, q1, q2, q3⟩ := id P2
            go_wp2_with fail
            have xe := X2
            exact bodyPost_ret (v := .tuple #[pAgg [] none 0 0, .int .i64 ((k : Int) + 1), .int .i64 1]) (by unfold pAgg; simp [results, Tryd.results11, go_sem, q0, q1]; rfl) rfl (.inl ⟨k + 1, HR.out.symm, by go_num, (xe.setCell (Nat.le_refl _) _).setCell (Nat.le_refl _) _⟩)
          | some oo =>
            have hR := Hpf.out
            rw [hop] at hR
            obtain ⟨ox, oa, ob, oc⟩ := oo
            clear Hpf
            rw [hop] at hcall
            unfold OpOf opAgg at hcall
            simp only [Option.getD_some, Option.isSome_some] at hcall
            go_wp2_with fail
            refine hcall.mono ?_
            rintro e w2 ⟨rfl, e2⟩
            clear hcall
            have G2a := hG.ext e2
            have P2a := hP.ext e2
            have W2a := Hw.out.ext e2
            have X2a := X.trans e2
            have hsz2 := e2.size
            have hBlt : ∀ k, blk B = some k → k < w2.heap.size := fun k e => by
              obtain ⟨ad, h3, h4⟩ := Option.map_eq_some_iff.1 e
              have := (G2a.2.1.base_le ad h3).2
              omega
            have HBlt := Lib.hid hBlt
            clear hG hP Hw X e2 hBlt
            clear hop
            go_upto_region 12 with fail
            generalize hV1 : World.alloc w2 _ = V1
            have eV1 : Ext w2 V1 := by subst hV1; exact Ext.alloc _ _
            have G2 := G2a.ext eV1
            have P2 := P2a.ext eV1
            have W2 := Lib.hid (W2a.ext eV1)
            have X2 := X2a.trans eV1
            have hsz3 := eV1.size
            have F2 : FBox V1 w2.heap.size ox oa ob oc := by subst hV1; exact FBox.new _ _ _ _ _ _ rfl
            clear hV1
            obtain ⟨p0, p1, p2, p3⟩ := id G2.1
            obtain ⟨⟨f0, f1, f2, f3⟩, -⟩ := id F2
            by_cases hfu : 64 ≤ m
            · try dsimp only at hR
              rw [if_pos (by omega)] at hR
              have HR := Lib.hid hR
              have hd1 : decide ((64 : Int) ≤ (m : Int)) = true := decide_eq_true (by omega)
              clear hR
              obtain ⟨q0, q1, q2, q3⟩ := id P2
              go_wp2_with fail
              have xe := X2
              exact bodyPost_ret (v := .tuple #[pAgg [] none 0 0, .int .i64 ((k : Int) + 1), .int .i64 1]) (by unfold pAgg; simp [results, Tryd.results11, go_sem, q0, q1]; rfl) rfl (.inl ⟨k + 1, HR.out.symm, by go_num, (xe.setCell (Nat.le_refl _) _).setCell (Nat.le_refl _) _⟩)
            · try dsimp only at hR
              rw [if_neg (by omega)] at hR
              have HR := Lib.hid hR
              have hd1 : decide ((64 : Int) ≤ (m : Int)) = false := decide_eq_false (by omega)
              have hop1 : ops.length + 1 ≤ 64 := by omega
              have Hm := Lib.hid hm
              have G3 := G2.ext (Ext.alloc V1 (.cells (ocs (ox, oa, ob, oc)).toArray 39))
              clear hR hm
              have hVb : w.heap.size + 1 ≤ V1.heap.size := G2.lt
              go_wp2_with (at_builtin; refine wpList_append_at _ rfl _ _ 24 rfl (w.heap.size + 1) 39 i0 (.agg #[.int .i64 0, .int .i64 0, .int .i64 0, .int .i64 0]) 4 32 Tryd.underlying24 hi hz0 hz1 hz2 rfl (by decide) B m d _ rfl G2.2.1 1 (ocs (ox, oa, ob, oc)) _ (by simp) rfl rfl (by simp [ocs, Value.oneCell']) (by unfold maxLen; omega) (by omega) hVb ?_; intro B' d' w' ho' hg' hw'; obtain ⟨z0, z1, z2, z3⟩ := G2.mid hg')
              have hBA : ∀ a, some (⟨b, o, none⟩ : Addr) = some a → blk B ≠ some a.block := fun a ha e => by have := Hhb.out _ e; have := (hAb a ha).2; omega
              have hB2 : blk B ≠ some w.heap.size := fun e => by have := Hhb.out _ e; omega
              have hG5 := G2.push (o := (ox, oa, ob, oc)) hg' ho' hw'
              have hset := grownSet (g := w.heap.size + 1) w' ⟨w.heap.size + 1, 1, none⟩ rfl (.slice B' (m + 1) d')
              have hP5 := (P2.grown hg' hB2).grown hset (some_ne (by omega))
              have hW5 := Lib.hid ((W2.out.grown hg' hBA).grown hset hgA)
              have hX5 := G2.out (W0 := w) (by omega) X2 hg' (.slice B' (m + 1) d')
              have hs5 := hg'.size
              have hBb5 : ∀ j, blk B' = some j → hb ≤ j := fun j hj => by
                rcases hw' with h | h
                · exact Hhb.out j (h.symm.trans hj)
                · have := h j hj; omega
              go_roundw
              case rel => exact ⟨k + 1, some tt, ops ++ [(ox, oa, ob, oc)], B', m + 1, d', rfl, by go_num, hlt, HR, hG5, hP5, hW5.out, hX5, hBb5, by simp [World.setCell]; omega, (fun h => by cases h), by simp; omega⟩
              case measure => simp [intOf]; omega
    · obtain rfl : k = L.length := by omega
      have hpf := Hp.out
      rw [List.drop_length] at hpf
      have hpf2 : (if ops = [] then Sum.inl 0 else Sum.inr (t.getD [], ops)) = R := by
        rw [← hpf]; cases t <;> rw [parseF]
      obtain ⟨p0, p1, p2, p3⟩ := id hG.1
      obtain ⟨q0, q1, q2, q3⟩ := id hP
      by_cases h0 : ops = []
      · rw [if_pos h0] at hpf2
        have HR := Lib.hid hpf2
        obtain rfl : m = 0 := by rw [hm, h0]; rfl
        clear hpf hpf2 h0 hm
        go_wp2_with fail
        have xe := X
        exact bodyPost_ret (v := .tuple #[pAgg [] none 0 0, .int .i64 0, .int .i64 1]) (by unfold pAgg; simp [results, Tryd.results11, go_sem, q0, q1]; rfl) rfl (.inl ⟨0, HR.out.symm, rfl, (xe.setCell (Nat.le_refl _) _).setCell (Nat.le_refl _) _⟩)
      · rw [if_neg h0] at hpf2
        have HR := Lib.hid hpf2
        have hm0 : 0 < m := by rw [hm]; exact List.length_pos_iff.mpr h0
        have hm1 : ((m : Int) == 0) = false := by rw [beq_eq_false_iff_ne]; omega
        clear hpf hpf2 h0 hm
        go_wp2_with fail
        have hne : blk B ≠ some w.heap.size := fun e => by have := Hhb.out _ e; omega
        have ho2 : Own ((wr.setCell ⟨w.heap.size, 0, none⟩ (.string (bs (t.getD [])))).setCell ⟨w.heap.size, 1, none⟩ (.slice B m d)) w.heap.size 39 4 B m d (opcs ops) :=
          ((hG.2.1.mono (Nat.le_succ _)).kept (grownSet (g := w.heap.size) wr ⟨w.heap.size, 0, none⟩ rfl _) (.inr hne)).kept (grownSet (g := w.heap.size) _ ⟨w.heap.size, 1, none⟩ rfl _) (.inr hne)
        exact bodyPost_ret (v := .tuple #[pAgg (t.getD []) B m d, .int .i64 0, .int .i64 0]) (by unfold pAgg; simp [results, Tryd.results11, go_sem, q0, q1]) rfl (.inr ⟨t.getD [], ops, HR.out.symm, B, m, d, rfl, ho2, (X.setCell (Nat.le_refl _) _).setCell (Nat.le_refl _) _⟩)
end Go.Proofs.YtbmgiidecidojaaDoor
