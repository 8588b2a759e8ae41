/- The walk of the law CodeBytes. -/
import Derived.Test.YtehelhennbcboaaCodL4
namespace Go.Proofs.Ytehelhennbcboaa
open Go.RowKit

theorem rencode_v (w : World) (t : List UInt8) (A : Option Addr) (n c : Nat) (l : List OpT) (ht : t.length ≤ 1099511627776) (hl : Ro w A n c l) :
    Calls Try.prog 21 #[pAgg t A n c] w fun r w' => ∃ v, r = .returned v ∧ Ext w w' ∧ SlB (encV t l) v w' := by
  cases hf : formL t l with
  | false =>
    refine (rencode_no w t A n c l ht hl hf).mono ?_
    rintro r w' ⟨rfl, e⟩
    exact ⟨_, rfl, e, none, 0, 0, rfl, by rw [(encV_zero t l).2 hf]; exact Rb.nil_ _⟩
  | true =>
    refine (rencode_yes w t A n c l hl hf).mono ?_
    rintro r w' ⟨g, m, d, rfl, ho, _, e⟩
    exact ⟨_, rfl, e, _, m, d, rfl, Rb.of ho.rd (by unfold encV; rw [if_pos hf])⟩
theorem eqP_self (t : List UInt8) (l : List OpT) : eqP t t l l = true := by simp [eqP]

theorem byte_of (q : Int) : ∃ v : UInt8, IntKind.u8.wrap q = (v.toNat : Int) := by
  refine ⟨UInt8.ofNat (q % 256).toNat, ?_⟩
  have : (UInt8.ofNat (q % 256).toNat).toNat = (q % 256).toNat := by simp [UInt8.toNat_ofNat']; omega
  rw [IntKind.wrap_u8, this]; omega
theorem Own.free {w : World} {base : Nat} {e : TypeId} {size : Nat} {g o : Nat} {n c : Nat} {xs : List Value} (h : Own w base e size (some ⟨g, o, none⟩) n c xs) (k : Nat) : w.frozen? ⟨g, k, none⟩ = false := by
  rcases h.2 with ⟨hv, _⟩ | ⟨g', cap, cur, hv, _, hg, _⟩
  · injection hv with h1; cases h1
  · injection hv with h1
    cases h1
    simp [World.frozen?, hg]
theorem Rb.set_ {w : World} {g o n c : Nat} {l : List UInt8} (h : Rb w (some ⟨g, o, none⟩) n c l) {I : Nat} (v : UInt8) : Rb (w.setCell ⟨g, o + I, none⟩ (.int .u8 (v.toNat : Int))) (some ⟨g, o, none⟩) n c (l.set I v) := by
  have hl := h.len
  refine ⟨by rw [bcs_length, List.length_set]; omega, h.2.1, h.2.2.1, fun hn => ⟨g, o, rfl, fun j u hu => ?_⟩⟩
  obtain ⟨b', o', e, hc⟩ := h.2.2.2 hn
  cases e
  have hj : j < l.length := by have := (List.getElem?_eq_some_iff.1 hu).1; rw [bcs_length, List.length_set] at this; exact this
  have hjc := hc j _ (bcs_get hj)
  rw [bcs_get (by rw [List.length_set]; exact hj)] at hu
  cases hu
  by_cases e : j = I
  · subst e
    rw [List.getElem_set_self]
    exact World.cell?_setCell_same _ _ _ hjc
  · rw [List.getElem_set_ne (fun e' => e e'.symm)]
    rw [World.cell?_setCell_other _ _ _ _ (by intro e'; injection e' with _ h2 _; omega)]
    exact hjc

set_option maxRecDepth 100000 in
set_option maxHeartbeats 4000000 in
theorem bytes_walk (w : World) (t : List UInt8) (A : Option Addr) (n c : Nat) (l : List OpT) (ht : t.length ≤ maxLen) (hl : Ro w A n c l) (_hok : ∀ o ∈ l, okO o)
    (x : Int) (_x0 : -9223372036854775808 ≤ x) (_x1 : x ≤ 9223372036854775807) (z : Nat) (_hz : z < 256) :
    Calls Try.prog 8 #[pAgg t A n c, .int .i64 x, .int .u8 (z : Nat)] w (Yes w) := by
  have hcut := fun W => pcut_any W t A n c 70 ht hl.max
  have hm := hl.min_ 70
  have htl : (t.take 40).length ≤ 1099511627776 := by rw [List.length_take]; omega
  obtain ⟨i0, hi, hz0, hz1, hz2⟩ := info_parts info_u8
  generalize t.take 40 = ta at *
  generalize l.take 70 = la at *
  generalize min n 70 = na at *
  clear hl ht _hok
  have henc := fun W h => encode_v W ta A na c la htl h
  have hrenc := fun W h => rencode_v W ta A na c la htl h
  have heq := fun W B m d h h' => eq_is W ta A na c la ta B m d la h h' (eqP_self ta la)
  have hreq := fun W B m d h h' => req_is W ta A na c la ta B m d la h h' (eqP_self ta la)
  unfold pAgg at hcut heq hreq henc hrenc ⊢
  have Hcut := Lib.hid hcut
  have Heq := Lib.hid heq
  have Hreq := Lib.hid hreq
  have Henc := Lib.hid henc
  have Hrenc := Lib.hid hrenc
  clear hcut heq hreq henc hrenc
  go_enter Try.func8, Try.ntmps8
  go_wp2_with fail
  refine (begun5_any _).mono ?_
  rintro e w1 ⟨rfl, e1⟩
  have pb := (PBox.new w 24 t A n c rfl).ext e1
  have x1 := (Ext.alloc w _).trans e1
  clear e1
  obtain ⟨p0, p1, p2, p3⟩ := id pb
  go_wp2_with fail
  refine (Hcut.out _).mono ?_
  rintro e w2 ⟨rfl, e2⟩
  have pb2 := pb.ext e2
  have x2 := x1.trans e2
  clear e2 p0 p1 p2 p3 pb x1
  obtain ⟨p0, p1, p2, p3⟩ := id pb2
  go_wp2_with fail
  generalize hW0 : World.setCell (World.setCell w2 _ _) _ _ = W0
  have x0 : Ext w W0 := by subst hW0; exact (x2.setCell (Nat.le_refl _) _).setCell (Nat.le_refl _) _
  have pc : PBox W0 w.heap.size ta A na c := by subst hW0; exact (pb2.setT ta).set_ A na c
  clear hW0 p0 p1 p2 p3 pb2 x2
  obtain ⟨p0, p1, p2, p3⟩ := id pc
  refine (Henc.out _ (hm.ext x0)).mono ?_
  rintro e w3 ⟨v, rfl, e3, Y, Ym, Yd, rfl, hY⟩
  have x3 := x0.trans e3
  have pd := pc.ext e3
  clear e3 p0 p1 p2 p3 pc x0
  go_wp2_with fail
  apply wp_region_lex (R := Ext) (by kernel_rfl) (by kernel_rfl) Ext.refl (fun _ _ _ => Ext.trans) (Ext.drew _)
  iterate 3
    apply lex_ex Ext.refl
    · rfl
    · intro V hR hΦ
      have hcY := run_string_of (P := Try.prog) V 36 9 5 Try.underlying36 Try.underlying5 Try.underlying9 _ _ _ _ (hY.ext hR)
      obtain ⟨p0, p1, p2, p3⟩ := pd.ext hR
      go_simp
      first | done | with_reducible rfl
    simp only [Act.put, List.setIfInBounds_toArray, List.set_cons_zero, List.set_cons_succ]
  apply lex_call (p := SlB (encV ta la)) (SlB.stab _)
  · rfl
  · intro V
    go_simp
    exact ⟨rfl, rfl⟩
  · intro V hR hΦ
    exact Hrenc.out V (hm.ext (x3.trans hR))
  intro v
  simp only [Act.put, List.setIfInBounds_toArray, List.set_cons_zero, List.set_cons_succ]
  apply lex_ex (u := .string (bs (encV ta la))) Ext.refl
  · rfl
  · intro V hR hΦ
    obtain ⟨Z, Zm, Zd, rfl, hZ⟩ := hΦ.1 rfl
    have hc := run_string_of (P := Try.prog) V 36 9 5 Try.underlying36 Try.underlying5 Try.underlying9 _ _ _ _ hZ
    go_simp
    first | done | with_reducible rfl
  simp only [Act.put, List.setIfInBounds_toArray, List.set_cons_zero, List.set_cons_succ]
  apply lex_ex Ext.refl
  · rfl
  · intro V hR hΦ
    go_simp
    first | done | with_reducible rfl
  simp only [Act.put, List.setIfInBounds_toArray, List.set_cons_zero, List.set_cons_succ]
  refine lex_nil ?_
  intro W hR hΦ
  obtain ⟨_, _, _, rfl, _⟩ := hΦ.1 rfl
  have x4 := x3.trans hR
  have pe := pd.ext hR
  have hY := hY.ext hR
  clear hΦ hR pd x3
  have hYn := hY.len
  subst hYn
  have hmost := encV_most ta la
  by_cases c1 : encV ta la = []
  · have b1 : (((encV ta la).length : Int) == 0) = true := by rw [c1]; rfl
    clear c1
    go_wp2_with fail
    go_ret
    exact ⟨rfl, x4⟩
  have b1 : (((encV ta la).length : Int) == 0) = false := by rw [beq_eq_false_iff_ne]; intro e; exact c1 (List.length_eq_zero_iff.1 (by omega))
  have hf : formL ta la = true := by cases hf : formL ta la with | true => rfl | false => exact absurd ((encV_zero ta la).2 hf) c1
  have hdec := decode_yes W Y _ Yd (encV ta la) hY (t := ta) (l := la) (by unfold encV; rw [if_pos hf]; exact dec_enc hf)
  have hpos : 0 < (encV ta la).length := List.length_pos_iff.2 c1
  unfold pAgg at hdec
  have Hdec := Lib.hid hdec
  clear hdec hf c1
  generalize encV ta la = y at *
  go_wp2_with fail
  refine Calls.mono Hdec.out ?_
  rintro e w5 ⟨B, m, d, rfl, ho, e5⟩
  have pf := pe.ext e5
  have x5 := x4.trans e5
  have hY5 := hY.ext e5
  have hlt := pf.lt
  obtain ⟨p0, p1, p2, p3⟩ := id pf
  clear e5
  go_wp2_with fail
  generalize hW6 : World.alloc w5 _ = W6
  have e6 : Ext w5 W6 := by subst hW6; exact Ext.alloc _ _
  have qg : PBox W6 w5.heap.size ta B m d := by subst hW6; exact PBox.new _ _ _ _ _ _ rfl
  have pg := pf.ext e6
  have x6 := x5.trans e6
  have hY6 := hY5.ext e6
  have ho6 : Ro W6 B m d la := ho.rd.ext e6
  clear hW6 e6 p0 p1 p2 p3 pf x5 hY5 ho hlt
  refine (Hreq.out _ _ _ _ (hm.ext x6) ho6).mono ?_
  rintro e w7 ⟨rfl, e7⟩
  have q7 := qg.ext e7
  have p7 := pg.ext e7
  have x7 := x6.trans e7
  have hY7 := hY6.ext e7
  have ho7 := ho6.ext e7
  clear e7 qg pg x6 hY6 ho6
  obtain ⟨p0, p1, p2, p3⟩ := id p7
  obtain ⟨q0, q1, q2, q3⟩ := id q7
  go_wp2_with fail
  refine (Heq.out _ _ _ _ (hm.ext x7) ho7).mono ?_
  rintro e w8 ⟨rfl, e8⟩
  have x8 := x7.trans e8
  have hY8 := hY7.ext e8
  clear e8 p0 p1 p2 p3 q0 q1 q2 q3 p7 q7 x7 hY7 ho7
  by_cases c2 : x < 0
  · go_wp2_with fail
    go_ret
    exact ⟨rfl, x8⟩
  obtain ⟨X, rfl⟩ := Int.eq_ofNat_of_zero_le (show 0 ≤ x by omega)
  obtain ⟨I, hI, hmod⟩ : ∃ I : Nat, I < y.length ∧ ((X : Int)).tmod (y.length : Int) = (I : Nat) := ⟨X % y.length, Nat.mod_lt _ hpos, by rw [Int.tmod_eq_emod_of_nonneg (by omega)]; simp⟩
  go_wp2_with (at_builtin; refine wpList_append_nil _ rfl _ _ 36 rfl w8.heap.size 5 i0 (.int .u8 0) 1 1 Try.underlying36 hi hz0 hz1 hz2 rfl (by decide) rfl _ y.length Yd _ rfl hY8 (bcs_one _) (by unfold maxLen; omega) (by omega) (Nat.le_refl _) ?_; intro C d1 w9 ho9 e9; obtain ⟨g, co, rfl, hc9⟩ := Rb.at_ (l := y) ho9.rd hI; have hfr := ho9.free (co + I))
  have hgl := (ho9.base_le _ rfl).1
  obtain ⟨v, hv⟩ : ∃ v : UInt8, bits BinOp.xor IntKind.u8 ((y[I]).toNat : Int) (z : Int) = (v.toNat : Int) := by unfold bits; exact byte_of _
  rw [hv]
  refine (tells_any _ _ _ _ _ (Rb.set_ ho9.rd v)).mono ?_
  rintro e w10 ⟨rfl, e10⟩
  have x9 := ((x8.trans e9).setCell (p := ⟨g, co + I, none⟩) (Nat.le_trans x8.size hgl) (.int .u8 (v.toNat : Int))).trans e10
  go_wp2_with fail
  go_ret
  exact ⟨rfl, x9⟩
end Go.Proofs.Ytehelhennbcboaa
