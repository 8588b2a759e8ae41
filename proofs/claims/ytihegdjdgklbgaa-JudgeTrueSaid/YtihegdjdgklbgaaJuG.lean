/- Slices of what players told, in memory; the walks of judge.Front, judge.Agree, law22.Prog. -/
import Derived.Test.YtihegdjdgklbgaaJuR
namespace Go.Proofs.Ytihegdjdgklbgaa
set_option maxRecDepth 100000
open Go.RowKit
set_option linter.unusedVariables false

abbrev HdT := (Option Addr × Nat × Nat) × Int × (Option Addr × Nat × Nat)
def tcells (h : HdT) : List Value := [hdr h.1, .int .i64 h.2.1, hdr h.2.2]
def tcs (hs : List HdT) : List Value := hs.flatMap tcells
theorem tcs_cons (h : HdT) (hs : List HdT) : tcs (h :: hs) = tcells h ++ tcs hs := rfl
theorem tcs_app (a b : List HdT) : tcs (a ++ b) = tcs a ++ tcs b := by simp [tcs]
theorem tcs_len : ∀ hs : List HdT, (tcs hs).length = hs.length * 3
  | [] => rfl
  | h :: hs => by rw [tcs_cons, List.length_append, tcs_len hs, List.length_cons]; simp [tcells]; omega
theorem tcs_get : ∀ (hs : List HdT) (k j : Nat) (hk : k < hs.length), j < 3 → (tcs hs)[k * 3 + j]? = (tcells hs[k])[j]?
  | h :: hs, 0, j, _, hj => by
    rw [tcs_cons, List.getElem?_append_left (by simp [tcells]; omega)]
    simp
  | h :: hs, k + 1, j, hk, hj => by
    have e : (tcells h).length = 3 := rfl
    rw [tcs_cons, List.getElem?_append_right (by omega), e, show (k + 1) * 3 + j - 3 = k * 3 + j by omega, tcs_get hs k j (by simpa using hk) hj]
    simp
/-- One that was told, by its headers. -/
def Told1 (w : World) (h : HdT) (t : ToldT) : Prop := Rp w h.1.1 h.1.2.1 h.1.2.2 t.1 ∧ h.2.1 = t.2.1 ∧ Rb w h.2.2.1 h.2.2.2.1 h.2.2.2.2 t.2.2
def Rt (w : World) (A : Option Addr) (n c : Nat) (ts : List ToldT) : Prop :=
  ∃ hs : List HdT, Rd w 3 A n c (tcs hs) ∧ hs.length = ts.length ∧ ∀ (i : Nat) h t, hs[i]? = some h → ts[i]? = some t → Told1 w h t
section
variable {w w' : World} {A : Option Addr} {n c : Nat} {ts : List ToldT}
theorem Told1.ext {h : HdT} {t : ToldT} (x : Told1 w h t) (e : Ext w w') : Told1 w' h t := ⟨x.1.ext e, x.2.1, x.2.2.ext e⟩
theorem Rt.ext (h : Rt w A n c ts) (e : Ext w w') : Rt w' A n c ts := by
  obtain ⟨hs, h1, h2, h3⟩ := h
  exact ⟨hs, h1.ext e, h2, fun i a t ha ht => (h3 i a t ha ht).ext e⟩
theorem Rt.len (h : Rt w A n c ts) : n = ts.length := by
  obtain ⟨hs, h1, h2, _⟩ := h
  have := h1.1
  rw [tcs_len] at this
  omega
theorem Rt.max (h : Rt w A n c ts) : n ≤ c ∧ c ≤ maxLen := by
  obtain ⟨hs, h1, _⟩ := h
  exact ⟨h1.2.1, h1.2.2.1⟩
theorem Rt.nil_ (w : World) : Rt w none 0 0 [] := ⟨[], Rd.nil_ w 3, rfl, by simp⟩
theorem Rt.at_ (h : Rt w A n c ts) {k : Nat} (hk : k < ts.length) : ∃ b o PA pn pc B m d, A = some ⟨b, o, none⟩ ∧ w.cell? ⟨b, o + k * 3, none⟩ = some (.slice PA pn pc) ∧ w.cell? ⟨b, o + k * 3 + 1, none⟩ = some (.int .i64 ts[k].2.1) ∧ w.cell? ⟨b, o + k * 3 + 2, none⟩ = some (.slice B m d) ∧
    Rp w PA pn pc ts[k].1 ∧ Rb w B m d ts[k].2.2 := by
  have hn := h.len
  obtain ⟨hs, h1, h2, h3⟩ := h
  have hk2 : k < hs.length := by omega
  obtain ⟨b, o, e, hc⟩ := h1.2.2.2 (by omega)
  obtain ⟨x1, x2, x3⟩ := h3 k _ _ (List.getElem?_eq_getElem hk2) (List.getElem?_eq_getElem hk)
  have hg := fun j (hj : j < 3) => tcs_get hs k j hk2 hj
  refine ⟨b, o, _, _, _, _, _, _, e, ?_, ?_, ?_, x1, x3⟩
  · exact hc _ _ ((hg 0 (by decide)).trans rfl)
  · rw [← x2]; exact hc _ _ ((hg 1 (by decide)).trans rfl)
  · exact hc _ _ ((hg 2 (by decide)).trans rfl)
theorem Rt.take (h : Rt w A n c ts) {k : Nat} (hk : k ≤ n) : Rt w A k c (ts.take k) := by
  obtain ⟨hs, h1, h2, h3⟩ := h
  have h4 := h1.take hk
  have e : (tcs hs).take (k * 3) = tcs (hs.take k) := by
    have ha : tcs hs = tcs (hs.take k) ++ tcs (hs.drop k) := by rw [← tcs_app, List.take_append_drop]
    have hl : (tcs (hs.take k)).length = k * 3 := by
      have := h1.1
      rw [tcs_len] at this
      rw [tcs_len, List.length_take]; congr 1; omega
    rw [ha, ← hl, List.take_left']
    rfl
  rw [e] at h4
  refine ⟨hs.take k, h4, by simp; omega, fun i a t ha ht => ?_⟩
  rw [List.getElem?_take] at ha ht
  split at ha
  · rw [if_pos (by assumption)] at ht
    exact h3 i a t ha ht
  · cases ha
end
/-- The least front. -/
def frontT : List ToldT → Int
  | [] => 0
  | t :: ts => ts.foldl (fun n x => min n x.2.1) t.2.1

def frK (ts : List ToldT) (x : Int) (k : Nat) : Int := (ts.take k).foldl (fun n t => min n t.2.1) x
theorem frK_succ {ts : List ToldT} {x : Int} {k : Nat} (h : k < ts.length) : frK ts x (k + 1) = min (frK ts x k) ts[k].2.1 := by
  unfold frK
  rw [List.take_succ_eq_append_getElem h, List.foldl_append]
  rfl
def fnRel (w : World) (ts : List ToldT) (x : Int) (v iv : Value) (wr : World) : Prop := ∃ k : Nat, v = .int .i64 (frK ts x k) ∧ iv = .int .i64 (k : Nat) ∧ k ≤ ts.length ∧ Ext w wr
theorem frontT_is {ts : List ToldT} (h : 0 < ts.length) : frontT ts = frK ts ts[0].2.1 ts.length := by
  cases ts with
  | nil => simp at h
  | cons t ts =>
    unfold frontT frK
    rw [List.take_length]
    simp
set_option maxHeartbeats 2000000 in
theorem front_any (w : World) (A : Option Addr) (n c : Nat) (ts : List ToldT) (h : Rt w A n c ts) : Calls Try.prog 26 #[.slice A n c] w fun e w' => e = .returned (.int .i64 (frontT ts)) ∧ Ext w w' := by
  have hn := h.len
  have hmx := h.max
  unfold maxLen at hmx
  by_cases h0 : n = 0
  · have hq : ((n : Int) == 0) = true := by rw [h0]; rfl
    have hts : ts = [] := List.eq_nil_of_length_eq_zero (by omega)
    subst hts
    have hq2 : (n == 0) = true := by rw [h0]; rfl
    clear hn
    go_enter Try.func26, Try.ntmps26
    go_wp2_with fail
    go_ret
    exact ⟨rfl, Ext.refl _⟩
  · have hq : ((n : Int) == 0) = false := by rw [beq_eq_false_iff_ne]; omega
    have hpos : 0 < ts.length := by omega
    have hfr := frontT_is hpos
    obtain ⟨b, o, PA, pn, pc, B, m, d, rfl, _, c1, _, _, _⟩ := h.at_ hpos
    have c1' : w.cell? ⟨b, o + 1, none⟩ = some (.int .i64 ts[0].2.1) := by simpa using c1
    clear c1
    generalize ts[0].2.1 = x at *
    have Hn := Lib.hid hn
    have Hfr := Lib.hid hfr
    have hix : (0 : Int) < (n : Int) := by omega
    have hix2 : 0 < n := by omega
    clear hn hfr
    go_enter Try.func26, Try.ntmps26
    go_wp2_with fail
    go_loopw [3, 15] (fun v iv wr => fnRel w ts x v iv wr) (fun _ iv _ => ts.length - (intOf iv).toNat)
    case atStart => exact ⟨0, rfl, rfl, by omega, Ext.refl _⟩
    case round =>
      obtain ⟨k, rfl, rfl, hk, he⟩ := hrel
      by_cases hlt : k < n
      · have hd : decide (k < n) = true := decide_eq_true hlt
        have hkl : k < ts.length := by have := Hn.out; omega
        obtain ⟨b', o', PA', pn', pc', B', m', d', hb', k0, k1, k2, _, _⟩ := h.at_ hkl
        cases hb'
        have k0 := he.cell k0
        have k1 := he.cell k1
        have k2 := he.cell k2
        have hs := frK_succ (x := x) hkl
        generalize ts[k].2.1 = y at *
        have Hs := Lib.hid hs
        clear hs
        rcases Int.lt_trichotomy (frK ts x k) y with hc | hc | hc
        · have hc1 : ¬ y < frK ts x k := by omega
          have hc2 : ¬ y = frK ts x k := by omega
          have hmin : min (frK ts x k) y = frK ts x k := by omega
          generalize frK ts x k = z at *
          go_wp2_with fail
          go_roundw
          case rel => exact ⟨k + 1, by rw [Hs.out, hmin], by go_num, hkl, he.trans (Ext.alloc _ _)⟩
          case measure => simp [intOf]; omega
        · have hmin : min (frK ts x k) y = frK ts x k := by omega
          generalize frK ts x k = z at *
          subst hc
          go_wp2_with fail
          go_roundw
          case rel => exact ⟨k + 1, by rw [Hs.out, hmin], by go_num, hkl, he.trans (Ext.alloc _ _)⟩
          case measure => simp [intOf]; omega
        · have hc1 : ¬ frK ts x k < y := by omega
          have hc2 : ¬ frK ts x k = y := by omega
          have hmin : min (frK ts x k) y = y := by omega
          generalize frK ts x k = z at *
          go_wp2_with fail
          go_roundw
          case rel => exact ⟨k + 1, by rw [Hs.out, hmin], by go_num, hkl, he.trans (Ext.alloc _ _)⟩
          case measure => simp [intOf]; omega
      · have hd : decide (k < n) = false := decide_eq_false hlt
        have hkl : k = ts.length := by have := Hn.out; omega
        have hfin : frontT ts = frK ts x k := by rw [Hfr.out, hkl]
        have Hfin := Lib.hid hfin
        clear hfin hkl
        generalize frK ts x k = z at *
        go_wp2_with fail
        go_ret
        exact ⟨by rw [Hfin.out]; rfl, he⟩

/-- Each agrees with each ahead of it, and with itself. -/
def AllAg (ts : List ToldT) (i : Nat) : Prop := ∀ (a b : Nat) (x y : ToldT), a < i → b ≤ a → ts[a]? = some x → ts[b]? = some y → agreeT x y = true
def agOuter (w : World) (ts : List ToldT) (iv : Value) (wr : World) : Prop := ∃ i : Nat, iv = .int .i64 (i : Nat) ∧ i ≤ ts.length ∧ AllAg ts i ∧ Ext w wr
def agInner (w : World) (ts : List ToldT) (x : ToldT) (gb i : Nat) (PA : Option Addr) (pn pc : Nat) (B : Option Addr) (m d : Nat) (kv : Value) (wr : World) : Prop :=
  ∃ k : Nat, kv = .int .i64 (k : Nat) ∧ k ≤ i + 1 ∧ (∀ (b : Nat) (y : ToldT), b < k → ts[b]? = some y → agreeT x y = true) ∧
    wr.cell? ⟨gb, 0, none⟩ = some (.slice PA pn pc) ∧ wr.cell? ⟨gb, 1, none⟩ = some (.int .i64 x.2.1) ∧ wr.cell? ⟨gb, 2, none⟩ = some (.slice B m d) ∧ Ext w wr
/-- Whether all agree. -/
noncomputable def agN (ts : List ToldT) : Bool := @decide (AllAg ts ts.length) (Classical.propDecidable _)
theorem agN_no {ts : List ToldT} {a b : Nat} {x y : ToldT} (hb : b ≤ a) (hx : ts[a]? = some x) (hy : ts[b]? = some y) (h : agreeT x y = false) : agN ts = false := by
  refine @decide_eq_false _ (Classical.propDecidable _) (fun hall => ?_)
  have := hall a b x y (List.getElem?_eq_some_iff.1 hx).1 hb hx hy
  rw [h] at this; cases this
theorem agN_yes {ts : List ToldT} (h : AllAg ts ts.length) : agN ts = true := by
  exact @decide_eq_true _ (Classical.propDecidable _) h
set_option maxHeartbeats 4000000 in
theorem agree_any (w : World) (A : Option Addr) (n c : Nat) (ts : List ToldT) (h : Rt w A n c ts) : Calls Try.prog 25 #[.slice A n c] w (IsB w (agN ts)) := by
  have hn := h.len
  have hmx := h.max
  unfold maxLen at hmx
  have Hn := Lib.hid hn
  clear hn
  go_enter Try.func25, Try.ntmps25
  go_wp2_with fail
  go_loopw [9] (fun iv wr => agOuter w ts iv wr) (fun iv _ => ts.length - (intOf iv).toNat)
  case atStart => exact ⟨0, rfl, by omega, fun a b x y ha => by omega, Ext.refl _⟩
  case round =>
    obtain ⟨i, rfl, hi, hall, he⟩ := hrel
    have Hall := Lib.hid hall
    clear hall
    by_cases hlt : i < n
    · have hd : decide (i < n) = true := decide_eq_true hlt
      have hil : i < ts.length := by have := Hn.out; omega
      obtain ⟨b, o, PA, pn, pc, B, m, d, rfl, k0, k1, k2, hp, hg⟩ := h.at_ hil
      have k0 := he.cell k0
      have k1 := he.cell k1
      have k2 := he.cell k2
      have hxi : ts[i]? = some ts[i] := List.getElem?_eq_getElem hil
      have Hxi := Lib.hid hxi
      have Hp := Lib.hid (hp.ext he)
      have Hg := Lib.hid (hg.ext he)
      clear hxi hp hg
      generalize ts[i] = x at *
      have hic : i + 1 ≤ c := by omega
      have hix : (0 : Int) ≤ (i : Int) + 1 ∧ (i : Int) + 1 ≤ (c : Int) := by omega
      go_wp2_with fail
      generalize hV : World.alloc wr _ = V
      have eV : Ext w V := by subst hV; exact he.trans (Ext.alloc _ _)
      have eW : Ext wr V := by subst hV; exact Ext.alloc _ _
      have g0 : V.cell? ⟨wr.heap.size, 0, none⟩ = some (.slice PA pn pc) := by subst hV; go_simp
      have g1 : V.cell? ⟨wr.heap.size, 1, none⟩ = some (.int .i64 x.2.1) := by subst hV; go_simp
      have g2 : V.cell? ⟨wr.heap.size, 2, none⟩ = some (.slice B m d) := by subst hV; go_simp
      have Hp2 := Lib.hid (Hp.out.ext eW)
      have Hg2 := Lib.hid (Hg.out.ext eW)
      clear hV k0 k1 k2 Hp Hg eW he
      generalize wr.heap.size = gb at *
      go_loopw [19] (fun kv wr2 => agInner V ts x gb i PA pn pc B m d kv wr2) (fun kv _ => i + 1 - (intOf kv).toNat)
      case atStart => exact ⟨0, rfl, by omega, fun b y hb => by omega, g0, g1, g2, Ext.refl _⟩
      case round =>
        obtain ⟨k, rfl, hk, hin, g0, g1, g2, e2⟩ := hrel
        have Hin := Lib.hid hin
        clear hin
        by_cases hki : k < i + 1
        · have hd2 : decide (k < i + 1) = true := decide_eq_true hki
          have hki2 : (k : Int) < (i : Int) + 1 := by omega
          have hd3 : decide ((k : Int) < (i : Int) + 1) = true := decide_eq_true hki2
          have hix3 : (0 : Int) ≤ (k : Int) ∧ (k : Int) < (i : Int) + 1 := by omega
          have hkl : k < ts.length := by omega
          obtain ⟨b', o', PA', pn', pc', B', m', d', hb', q0, q1, q2, hp', hg'⟩ := h.at_ hkl
          cases hb'
          have q0 := e2.cell (eV.cell q0)
          have q1 := e2.cell (eV.cell q1)
          have q2 := e2.cell (eV.cell q2)
          have hyk : ts[k]? = some ts[k] := List.getElem?_eq_getElem hkl
          have Hyk := Lib.hid hyk
          have Hp' := Lib.hid ((hp'.ext eV).ext e2)
          have Hg' := Lib.hid ((hg'.ext eV).ext e2)
          clear hyk hp' hg'
          generalize ts[k] = y at *
          have hj := fun W (eW : Ext _ W) => jagree_any W PA pn pc x.2.1 B m d PA' pn' pc' y.2.1 B' m' d' x.1 y.1 x.2.2 y.2.2 ((Hp2.out.ext e2).ext eW) ((Hg2.out.ext e2).ext eW) (Hp'.out.ext eW) (Hg'.out.ext eW)
          unfold tAgg at hj
          have Hj := Lib.hid hj
          clear hj
          have hgb : gb < wr.heap.size := World.block_lt_of_cell? wr _ g0
          go_wp2_with fail
          refine (Hj.out _ (Ext.alloc _ _)).mono ?_
          rintro e w5 ⟨rfl, e5⟩
          have e6 := e2.trans ((Ext.alloc _ _).trans e5)
          have g0 := e5.cell ((Ext.alloc _ _).cell g0)
          have g1 := e5.cell ((Ext.alloc _ _).cell g1)
          have g2 := e5.cell ((Ext.alloc _ _).cell g2)
          cases hxy : agreeT (x.1, x.2.1, x.2.2) (y.1, y.2.1, y.2.2)
          · have hno := agN_no (ts := ts) (a := i) (b := k) (by omega) Hxi.out Hyk.out hxy
            have Hno := Lib.hid hno
            clear hno
            go_wp2_with fail
            go_ret
            exact ⟨by rw [Hno.out]; rfl, eV.trans e6⟩
          · have hin2 : ∀ (b : Nat) (z : ToldT), b < k + 1 → ts[b]? = some z → agreeT x z = true := by
              intro b z hb hz
              by_cases hbk : b < k
              · exact Hin.out b z hbk hz
              · obtain rfl : b = k := by omega
                rw [Hyk.out] at hz
                obtain rfl := Option.some.inj hz
                exact hxy
            have Hin2 := Lib.hid hin2
            clear hin2
            go_wp2_with fail
            go_roundw
            case rel => exact ⟨k + 1, by go_num, by omega, Hin2.out, g0, g1, g2, e6⟩
            case measure => simp [intOf]; omega
        · have hd2 : decide (k < i + 1) = false := decide_eq_false hki
          have hki2 : ¬ (k : Int) < (i : Int) + 1 := by omega
          have hd3 : decide ((k : Int) < (i : Int) + 1) = false := decide_eq_false hki2
          have hall2 : AllAg ts (i + 1) := by
            intro a b' y z ha hb hy hz
            by_cases hai : a < i
            · exact Hall.out a b' y z hai hb hy hz
            · obtain rfl : a = i := by omega
              rw [Hxi.out] at hy
              obtain rfl := Option.some.inj hy
              exact Hin.out b' z (by omega) hz
          have Hall2 := Lib.hid hall2
          clear hall2
          go_wp2_with fail
          go_roundw
          case rel => exact ⟨i + 1, by go_num, hil, Hall2.out, eV.trans e2⟩
          case measure => simp [intOf]; omega
    · have hd : decide (i < n) = false := decide_eq_false hlt
      have hil : i = ts.length := by have := Hn.out; omega
      have hy := agN_yes (ts := ts) (by rw [← hil]; exact Hall.out)
      have Hy := Lib.hid hy
      clear hy hil
      go_wp2_with fail
      go_ret
      exact ⟨by rw [Hy.out]; rfl, he⟩

def ops22 : List OpT := [(1, 30, 1, 0), (11, 1, 0, 0), (5, 2, 2, 31), (3, 2, 2, 1), (3, 0, 0, 30), (1, 29, 8, 0), (7, 28, 0, 29), (10, 28, 9, 0), (9, 1, 0, 0), (1, 0, 0, 0), (15, 31, 0, 0), (13, 31, 2, 0)]
set_option maxRecDepth 100000 in
set_option maxHeartbeats 2000000 in
theorem prog22_any (w : World) : Calls Try.prog 27 #[] w fun e w' => ∃ A, e = .returned (pAgg [115, 117, 109] A 12 12) ∧ Ro w' A 12 12 ops22 ∧ Ext w w' := by
  go_enter Try.func27, Try.ntmps27
  go_wp2_with fail
  have hro : Ro ((w.alloc (.cells #[.string { data := #[115, 117, 109] }, .slice (some ⟨w.heap.size + 1, 0, none⟩) 12 12] 24)).alloc (.cells (opcs ops22).toArray 46)) (some ⟨w.heap.size + 1, 0, none⟩) 12 12 ops22 := ro_new (by simp) rfl rfl (by decide)
  exact bodyPost_ret (v := pAgg [115, 117, 109] (some ⟨w.heap.size + 1, 0, none⟩) 12 12) (by simp [results, Try.results27, go_sem, pAgg, bs]) rfl ⟨_, rfl, hro, (Ext.alloc _ _).trans (Ext.alloc _ _)⟩
end Go.Proofs.Ytihegdjdgklbgaa
