/- The walks of the law's Presses, fold.From, fold.All. -/
import Derived.Test.YtihegdjdgklbgaaFoP
namespace Go.Proofs.Ytihegdjdgklbgaa
set_option maxRecDepth 100000
open Go.RowKit
set_option linter.unusedVariables false

theorem info_bytes : (Try.prog.info? 43).map (fun i => (i.zero, i.size, i.bytes)) = some (some (.slice none 0 0), 1, 24) := by kernel_rfl
/-- Presses of which each lies where it lay at first, while their headers lie in new memory. -/
def Rq (w0 w w' : World) (B : Option Addr) (m d : Nat) (Q : List (List UInt8)) : Prop :=
  ∃ hs : List (Option Addr × Nat × Nat), Rd w' 1 B m d (hs.map hdr) ∧ hs.length = Q.length ∧ (∀ (i : Nat) h p, hs[i]? = some h → Q[i]? = some p → Rb w0 h.1 h.2.1 h.2.2 p) ∧ (0 < m → ∀ a, B = some a → w.heap.size ≤ a.block) ∧ Ext w0 w'
theorem Rq.rp {w0 w w' : World} {B : Option Addr} {m d : Nat} {Q : List (List UInt8)} (h : Rq w0 w w' B m d Q) : Rp w' B m d Q := by
  obtain ⟨hs, h1, h2, h3, _, h5⟩ := h
  exact ⟨hs, h1, h2, fun i a p ha hp => (h3 i a p ha hp).ext h5⟩
theorem Rq.ext {w0 w w' w'' : World} {B : Option Addr} {m d : Nat} {Q : List (List UInt8)} (h : Rq w0 w w' B m d Q) (e : Ext w' w'') : Rq w0 w w'' B m d Q := by
  obtain ⟨hs, h1, h2, h3, h4, h5⟩ := h
  exact ⟨hs, h1.ext e, h2, h3, h4, h5.trans e⟩
theorem Rq.keep {w0 w w' w'' : World} {B : Option Addr} {m d : Nat} {Q : List (List UInt8)} {b : Nat} (h : Rq w0 w w' B m d Q) (hg : w'.grownBy w'' (some b)) (h0 : w0.heap.size ≤ b) (h1 : b < w.heap.size) : Rq w0 w w'' B m d Q := by
  obtain ⟨hs, k1, k2, k3, k4, k5⟩ := h
  exact ⟨hs, Rd.grownP k1 hg (fun hm a ha e => by have := k4 hm a ha; have := Option.some.inj e; omega), k2, k3, k4, ext_of_grown_new k5 hg h0⟩
def PressesOf (w0 w : World) (ps : List (List UInt8)) (k : Nat) (e : Ending) (w' : World) : Prop := ∃ B m d, e = .returned (.slice B m d) ∧ Rq w0 w w' B m d ((ps.take k).map (·.take 9)) ∧ Ext w w'
def prRel (w0 w : World) (ps : List (List UInt8)) (k : Nat) (v iv : Value) (wr : World) : Prop :=
  ∃ (i : Nat) (B : Option Addr) (d : Nat) (hs : List (Option Addr × Nat × Nat)), v = .slice B i d ∧ iv = .int .i64 (i : Nat) ∧ i ≤ ps.length ∧ i ≤ k ∧ Own wr w.heap.size 43 1 B i d (hs.map hdr) ∧ hs.length = i ∧
    (∀ (j : Nat) h, hs[j]? = some h → ∃ p, ps[j]? = some p ∧ Rb w0 h.1 h.2.1 h.2.2 (p.take 9)) ∧ Ext w wr
theorem rb_min {w : World} {A : Option Addr} {n c : Nat} {l : List UInt8} (h : Rb w A n c l) (k : Nat) : Rb w A (min n k) c (l.take k) := by
  have h2 := h.take (Nat.min_le_left n k)
  have e : l.take (min n k) = l.take k := by rw [h.len, List.take_eq_take_iff]; omega
  rwa [e] at h2
theorem presses_end {w0 w wr : World} {ps : List (List UInt8)} {k i : Nat} {B : Option Addr} {d : Nat} {hs : List (Option Addr × Nat × Nat)} (e0 : Ext w0 w) (hi : i = min ps.length k) (ho : Own wr w.heap.size 43 1 B i d (hs.map hdr)) (hl : hs.length = i)
    (hh : ∀ (j : Nat) h, hs[j]? = some h → ∃ p, ps[j]? = some p ∧ Rb w0 h.1 h.2.1 h.2.2 (p.take 9)) (e : Ext w wr) : PressesOf w0 w ps k (.returned (.slice B i d)) wr := by
  refine ⟨B, i, d, rfl, ⟨hs, ho.rd, by simp; omega, fun j h p hj hp => ?_, fun _ a ha => (ho.base_le a ha).1, e0.trans e⟩, e⟩
  obtain ⟨q, hq, hr⟩ := hh j h hj
  rw [List.getElem?_map, List.getElem?_take] at hp
  split at hp
  · rw [hq] at hp
    obtain rfl : q.take 9 = p := by simpa using hp
    exact hr
  · simp at hp

set_option maxRecDepth 100000 in
set_option maxHeartbeats 1000000 in
theorem presses_any (w0 w : World) (e0 : Ext w0 w) (A : Option Addr) (n c : Nat) (ps : List (List UInt8)) (k : Nat) (hp : Rp w0 A n c ps) (hk : k ≤ 1000) :
    Calls Try.prog 13 #[.slice A n c, .int .i64 (k : Nat)] w (PressesOf w0 w ps k) := by
  have hmx := hp.max
  have hn := hp.len
  unfold maxLen at hmx
  have Hn := Lib.hid hn
  clear hn
  obtain ⟨i0, hi, hz0, hz1, hz2⟩ := info_parts info_bytes
  go_enter Try.func13, Try.ntmps13
  go_wp2_with fail
  go_loopw [5, 6] (fun v iv wr => prRel w0 w ps k v iv wr) (fun _ iv _ => k - (intOf iv).toNat)
  case atStart => exact ⟨0, none, 0, [], rfl, rfl, by omega, by omega, Own.nil_ _ _ _ _, rfl, by simp, Ext.refl _⟩
  case round =>
    obtain ⟨i, B, d, hs, rfl, rfl, hi1, hi2, ho, hl, hh, he⟩ := hrel
    have Hl := Lib.hid hl
    have Hh := Lib.hid hh
    clear hl hh
    by_cases h1 : i < n
    · have hd1 : decide (i < n) = true := decide_eq_true h1
      by_cases h2 : i < k
      · have hd2 : decide (i < k) = true := decide_eq_true h2
        have hil : i < ps.length := by have := Hn.out; omega
        obtain ⟨b, o, Ai, ni, ci, rfl, hc0, hr⟩ := hp.at_ hil
        have hc := he.cell (e0.cell hc0)
        have hrm := rb_min hr 9
        have hsh := fun W => short_any Ai ni ci 9 W hr.max
        have Hsh := Lib.hid hsh
        have hpi : ps[i]? = some ps[i] := List.getElem?_eq_getElem hil
        have Hpi := Lib.hid hpi
        clear hsh hpi
        generalize ps[i] = pi at *
        go_wp2_with fail
        refine (Hsh.out _).mono ?_
        rintro e w2 ⟨rfl, rfl⟩
        go_wp2_with (at_builtin; refine wpList_append_new _ rfl _ _ 26 rfl w.heap.size 43 i0 (.slice none 0 0) 1 24 Try.underlying26 hi hz0 hz1 hz2 rfl (by decide) B i d _ rfl ho 1 [hdr (Ai, min ni 9, ci)] rfl rfl (by simp [Value.oneCell', hdr]) (by unfold maxLen; omega) (by omega) he.size ?_; intro B' d' w' ho' hg' hw')
        have e2 : Ext w w' := Ext.own he hg' ho.blk_ge
        go_roundw
        case rel =>
          refine ⟨i + 1, B', d', hs ++ [(Ai, min ni 9, ci)], rfl, by go_num, hil, h2, by simpa using ho', by simp; exact Hl.out, fun j h hj => ?_, e2⟩
          have hlen := Hl.out
          by_cases hjl : j < hs.length
          · rw [List.getElem?_append_left hjl] at hj
            exact Hh.out j h hj
          · rw [List.getElem?_append_right (by omega)] at hj
            have hj0 : j - hs.length = 0 := by
              have := (List.getElem?_eq_some_iff.1 hj).1
              simp at this; omega
            rw [hj0] at hj
            obtain rfl : (Ai, min ni 9, ci) = h := by simpa using hj
            have hji : j = i := by omega
            subst hji
            exact ⟨_, Hpi.out, hrm⟩
        case measure => simp [intOf]; omega
      · have hd2 : decide (i < k) = false := decide_eq_false h2
        have hend := presses_end (ps := ps) (k := k) e0 (by have := Hn.out; omega) ho Hl.out Hh.out he
        have Hend := Lib.hid hend
        clear hend
        go_wp2_with fail
        go_ret
        exact Hend.out
    · have hd1 : decide (i < n) = false := decide_eq_false h1
      have hend := presses_end (ps := ps) (k := k) e0 (by have := Hn.out; omega) ho Hl.out Hh.out he
      have Hend := Lib.hid hend
      clear hend
      go_wp2_with fail
      go_ret
      exact Hend.out

/-- fold.From. -/
def frRel (t : List UInt8) (l : List OpT) (f : Int) (g : List Int) (ps : List (List UInt8)) (w1 : World) (b : Nat) (iv : Value) (wr : World) : Prop :=
  ∃ k : Nat, iv = .int .i64 (k : Nat) ∧ k ≤ ps.length ∧ Blk wr b 31 (foldN t l f g (ps.take k)) ∧ w1.grownBy wr (some b)
set_option maxHeartbeats 2000000 in
theorem from_any (w : World) (t : List UInt8) (A : Option Addr) (n c : Nat) (l : List OpT) (frame : Int) (PA : Option Addr) (pn pc : Nat) (ps : List (List UInt8)) (g : List Int)
    (ht : t.length ≤ 1099511627776) (hl : Ro w A n c l) (hp : Rp w PA pn pc ps) (hok : okG g) (h0 : 0 ≤ frame) (h1 : frame ≤ 1000000) (hps : ps.length ≤ 1000) :
    Calls Try.prog 15 #[pAgg t A n c, .agg (gcs g), .int .i64 frame, .slice PA pn pc] w fun e w' => e = .returned (.agg (gcs (foldN t l frame g ps))) ∧ Ext w w' := by
  have hg32 := hok.1
  have hmx := hp.max
  have hpn := hp.len
  unfold maxLen at hmx
  unfold pAgg
  have Hpn := Lib.hid hpn
  obtain ⟨G, hG⟩ : ∃ x, foldN t l frame g ps = x := ⟨_, rfl⟩
  have hG32 : G.length = 32 := by rw [← hG]; exact (foldN_ok t l ps frame hok).1
  rw [hG]
  have HG := Lib.hid hG
  have HG32 := Lib.hid hG32
  clear hpn hG hG32
  go_enter Try.func15, Try.ntmps15
  go_wp2_with fail
  generalize hV : World.alloc (World.alloc (World.alloc w _) _) _ = V
  have eV : Ext w V := by subst hV; exact ((Ext.alloc _ _).trans (Ext.alloc _ _)).trans (Ext.alloc _ _)
  have bR : Blk V (w.heap.size + 1 + 1) 31 zeroG := by subst hV; exact Blk.new' _ _ (g := zeroG) rfl (by simp)
  have bS : Blk V (w.heap.size + 1) 31 g := by subst hV; exact (Blk.new' _ _ hg32 (by simp)).ext (Ext.alloc _ _)
  have c0 : V.cell? ⟨w.heap.size, 0, none⟩ = some (.string (bs t)) := by subst hV; go_simp
  have c1 : V.cell? ⟨w.heap.size, 1, none⟩ = some (.slice A n c) := by subst hV; go_simp
  clear hV
  obtain ⟨b, hb⟩ : ∃ b, w.heap.size + 1 = b := ⟨_, rfl⟩
  rw [hb] at bS bR
  have hb2 : w.heap.size < b := by omega
  have Hb := Lib.hid hb
  clear hb
  rw [Hb.out]
  go_loopw [13] (fun iv wr => frRel t l frame g ps V b iv wr) (fun iv _ => ps.length - (intOf iv).toNat)
  case atStart => exact ⟨0, rfl, by omega, bS, World.grownBy.refl _ _⟩
  case round =>
    obtain ⟨k, rfl, hk, hbk, hch⟩ := hrel
    have d0 : wr.cell? ⟨w.heap.size, 0, none⟩ = some (.string (bs t)) := hch.cell c0 (by simp; omega)
    have d1 : wr.cell? ⟨w.heap.size, 1, none⟩ = some (.slice A n c) := hch.cell c1 (by simp; omega)
    have rR := bR.grown hch (by simp)
    have xR := ext_of_grown_new eV hch (by omega)
    by_cases hlt : k < pn
    · have hd : decide (k < pn) = true := decide_eq_true hlt
      have hkl : k < ps.length := by have := Hpn.out; omega
      have lW : Ro wr A n c l := Rd.grownP (Rd.ext hl eV) hch (fun h a ha => by have := Rd.lt hl (by omega) a ha; simp; omega)
      obtain ⟨pb, po, Ai, ni, ci, rfl, hc0, hr0⟩ := hp.at_ hkl
      have hpb : pb < w.heap.size := World.block_lt_of_cell? w _ hc0
      have hc : wr.cell? ⟨pb, po + k, none⟩ = some (.slice Ai ni ci) := hch.cell (eV.cell hc0) (by simp; omega)
      have hr : Rb wr Ai ni ci ps[k] := Rd.grownP (Rd.ext hr0 eV) hch (fun h a ha => by have := Rd.lt hr0 (by omega) a ha; simp; omega)
      have hgo := foldN_ok t l (ps.take k) frame hok
      have hsn := foldN_snoc t l frame g hkl
      have hst := step_any wr t A n c l (frame + k) Ai ni ci ps[k] (foldN t l frame g (ps.take k)) ht lW hr hgo
      rw [← hsn] at hst
      unfold pAgg at hst
      have Hst := Lib.hid hst
      have Hg2 := Lib.hid (foldN_ok t l (ps.take (k + 1)) frame hok).1
      clear hst hsn hgo hr lW hr0 hc0
      obtain ⟨G2, hG2⟩ : ∃ x, foldN t l frame g (ps.take (k + 1)) = x := ⟨_, rfl⟩
      have HG2 := Lib.hid hG2
      rw [hG2] at Hst Hg2
      clear hG2
      generalize foldN t l frame g (ps.take k) = G1 at *
      go_wp2_with (with_reducible refine wpList_load_gm rfl 31 (.tmp 5) rfl rfl Try.underlying31 size_state hbk.gm ?_)
      refine Calls.mono Hst.out ?_
      rintro e w2 ⟨rfl, e2⟩
      have hb3 := hbk.ext e2
      go_wp2_with ((with_reducible refine wpList_put_game rfl 31 (.tmp 5) (.tmp 24) rfl rfl rfl hb3 Hg2.out size_state ?_); intro W3 b4 _ y3 _)
      go_roundw
      case rel => exact ⟨k + 1, by go_num, hkl, by rw [HG2.out]; exact b4, (hch.trans (e2.grownBy _)).trans y3⟩
      case measure => simp [intOf]; omega
    · have hd : decide (k < pn) = false := decide_eq_false hlt
      have hkl : k = ps.length := by have := Hpn.out; omega
      subst hkl
      have hfin : foldN t l frame g (ps.take ps.length) = G := by rw [List.take_length]; exact HG.out
      rw [hfin] at hbk
      clear hfin
      go_wp2_with (first
        | (with_reducible refine wpList_load_gm rfl 31 (.tmp 5) rfl rfl Try.underlying31 size_state hbk.gm ?_)
        | (with_reducible refine wpList_store_blk rfl 31 (.tmp 8) (.tmp 26) rfl rfl rfl rR HG32.out size_state ?_))
      exact bodyPost_ret (v := .agg (gcs G)) (result_gm rfl _ rfl (rR.setRow HG32.out).gm Try.underlying31 size_state) rfl ⟨rfl, xR.setRow (by omega) _⟩
end Go.Proofs.Ytihegdjdgklbgaa
