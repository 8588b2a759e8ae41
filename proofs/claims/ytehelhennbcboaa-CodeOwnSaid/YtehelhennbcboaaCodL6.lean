/- The walk of the law CodeOwn. -/
import Derived.Test.YtehelhennbcboaaCodL5
namespace Go.Proofs.Ytehelhennbcboaa
open Go.RowKit

theorem Rd.set_ {w : World} {size g o n c : Nat} {xs : List Value} (h : Rd w size (some ⟨g, o, none⟩) n c xs) {I : Nat} (v : Value) : Rd (w.setCell ⟨g, o + I, none⟩ v) size (some ⟨g, o, none⟩) n c (xs.set I v) := by
  refine ⟨by rw [List.length_set]; exact h.1, h.2.1, h.2.2.1, fun hn => ⟨g, o, rfl, fun j u hu => ?_⟩⟩
  obtain ⟨b', o', e, hc⟩ := h.2.2.2 hn
  cases e
  have hj : j < xs.length := by have := (List.getElem?_eq_some_iff.1 hu).1; rwa [List.length_set] at this
  have hjc := hc j _ (List.getElem?_eq_getElem hj)
  by_cases e : j = I
  · subst e
    rw [List.getElem?_set_self hj] at hu
    cases hu
    exact World.cell?_setCell_same _ _ _ hjc
  · rw [List.getElem?_set_ne (fun e' => e e'.symm)] at hu
    rw [World.cell?_setCell_other _ _ _ _ (by intro e'; injection e' with _ h2 _; omega)]
    exact hc j u hu
theorem wrap_next (a : Int) : wrap64 (a + 1) ≠ a := by
  unfold wrap64
  omega

set_option maxRecDepth 100000 in
set_option maxHeartbeats 4000000 in
theorem own_walk (w : World) (t : List UInt8) (A : Option Addr) (n c : Nat) (l : List OpT) (ht : t.length ≤ maxLen) (hl : Ro w A n c l) (hok : ∀ o ∈ l, okO o) :
    Calls Try.prog 13 #[pAgg t A n c] w (Yes w) := by
  have hcut := fun W => pcut_any W t A n c 30 ht hl.max
  have hm := hl.min_ 30
  have hok' : ∀ o ∈ l.take 30, okO o := fun o h => hok o (List.mem_of_mem_take h)
  have htl : (t.take 40).length ≤ 1099511627776 := by rw [List.length_take]; omega
  obtain ⟨i0, hi, hz0, hz1, hz2⟩ := info_parts info_u8
  generalize t.take 40 = ta at *
  generalize l.take 30 = la at *
  generalize min n 30 = na at *
  clear hl ht hok
  have hrenc := fun W h => rencode_v W ta A na c la htl h
  have hreq := fun W B m d h h' => req_is W ta B m d la ta A na c la h h' (eqP_self ta la)
  unfold pAgg at hcut hreq hrenc ⊢
  have Hcut := Lib.hid hcut
  have Hreq := Lib.hid hreq
  have Hrenc := Lib.hid hrenc
  clear hcut hreq hrenc
  go_enter Try.func13, Try.ntmps13
  go_wp2_with fail
  refine (begun5_any _).mono ?_
  rintro e w1 ⟨rfl, e1⟩
  have pb := (PBox.new w 24 t A n c rfl).ext e1
  have x1 := (Ext.alloc w _).trans e1
  clear e1
  obtain ⟨p0, p1, p2, p3⟩ := id pb
  go_wp2_with fail
  refine (Hcut.out _).mono ?_
  rintro e w2 ⟨rfl, e2⟩
  have pb2 := pb.ext e2
  have x2 := x1.trans e2
  clear e2 p0 p1 p2 p3 pb x1
  obtain ⟨p0, p1, p2, p3⟩ := id pb2
  go_wp2_with fail
  generalize hW0 : World.setCell (World.setCell w2 _ _) _ _ = W0
  have x0 : Ext w W0 := by subst hW0; exact (x2.setCell (Nat.le_refl _) _).setCell (Nat.le_refl _) _
  have pc : PBox W0 w.heap.size ta A na c := by subst hW0; exact (pb2.setT ta).set_ A na c
  clear hW0 p0 p1 p2 p3 pb2 x2
  obtain ⟨p0, p1, p2, p3⟩ := id pc
  refine (Hrenc.out _ (hm.ext x0)).mono ?_
  rintro e w3 ⟨v, rfl, e3, Y, Ym, Yd, rfl, hY⟩
  have x3 := x0.trans e3
  have pd := pc.ext e3
  clear e3 p0 p1 p2 p3 pc x0
  have hYn := hY.len
  subst hYn
  have hmost := encV_most ta la
  by_cases c1 : encV ta la = []
  · have b1 : (((encV ta la).length : Int) == 0) = true := by rw [c1]; rfl
    clear c1
    go_wp2_with fail
    go_ret
    exact ⟨rfl, x3⟩
  have b1 : (((encV ta la).length : Int) == 0) = false := by rw [beq_eq_false_iff_ne]; intro e; exact c1 (List.length_eq_zero_iff.1 (by omega))
  have hf : formL ta la = true := by cases hf : formL ta la with | true => rfl | false => exact absurd ((encV_zero ta la).2 hf) c1
  have hdec := fun W Y Yn Yd hY => decode_yes W Y Yn Yd (encV ta la) hY (t := ta) (l := la) (by unfold encV; rw [if_pos hf]; exact dec_enc hf)
  have hlen1 : 1 ≤ la.length := (form_lens hf).1
  have hpos : 0 < (encV ta la).length := List.length_pos_iff.2 c1
  unfold pAgg at hdec
  have Hdec := Lib.hid hdec
  clear hdec hf c1
  generalize encV ta la = y at *
  go_wp2_with (at_builtin; refine wpList_append_nil _ rfl _ _ 36 rfl w3.heap.size 5 i0 (.int .u8 0) 1 1 Try.underlying36 hi hz0 hz1 hz2 rfl (by decide) rfl _ y.length Yd _ rfl hY (bcs_one _) (by unfold maxLen; omega) (by omega) (Nat.le_refl _) ?_; intro C d1 w4 ho4 e4)
  refine (Hdec.out _ _ _ _ ho4.rd).mono ?_
  rintro e w5 ⟨B, m, d, rfl, ho, e5⟩
  have hB5 := ho.base_le
  obtain ⟨gC, co, rfl, _⟩ := Rb.at_ (l := y) ho4.rd hpos
  have hgC := ho4.base_le _ rfl
  have hfrC := fun k => ho4.free k
  dsimp only at hgC
  go_wp2_with fail
  generalize hW6 : World.alloc w5 _ = W6
  have e6 : Ext w5 W6 := by subst hW6; exact Ext.alloc _ _
  have q6 : PBox W6 w5.heap.size ta B m d := by subst hW6; exact PBox.new _ _ _ _ _ _ rfl
  have hC6 := (Rb.of ho4.rd rfl).ext (e5.trans e6)
  have hfr6 : ∀ k, W6.frozen? ⟨gC, k, none⟩ = false := fun k => by rw [(e5.trans e6).frozen hgC.2]; exact hfrC k
  have ho6 := ho.ext e6
  have x36 : Ext w3 W6 := (e4.trans e5).trans e6
  have hs5 := e5.size
  have x3s : w.heap.size < w4.heap.size := Nat.lt_of_lt_of_le pd.lt e4.size
  clear hW6 e6 ho4 ho hfrC e4 e5
  go_loopw [8] (fun i w' => ∃ (k : Nat) (ys : List UInt8), i = .int .i64 (k : Nat) ∧ k ≤ y.length ∧ Rb w' (some ⟨gC, co, none⟩) y.length d1 ys ∧ (∀ j, w'.frozen? ⟨gC, j, none⟩ = false) ∧ W6.grownBy w' (some gC)) (fun i _ => y.length - (intOf i).toNat)
  case atStart => exact ⟨0, y, rfl, Nat.zero_le _, hC6, hfr6, (Ext.refl _).grownBy _⟩
  case round =>
    obtain ⟨k, ys, rfl, hk, hC, hfr, hgr⟩ := hrel
    have hyl := hC.len
    by_cases hlt : k < y.length
    · obtain ⟨b', o', hb', hcell⟩ := Rb.at_ (k := k) hC (by omega)
      cases hb'
      have hf := hfr (co + k)
      obtain ⟨v, hv⟩ : ∃ v : UInt8, (((ys[k]'(by omega)).toNat : Int) + 1) % 256 = (v.toNat : Int) := by
        have := byte_of (((ys[k]'(by omega)).toNat : Int) + 1)
        rwa [IntKind.wrap_u8] at this
      have hC' := Rb.set_ (I := k) hC v
      have hfr' : ∀ j, (wr.setCell ⟨gC, co + k, none⟩ (.int .u8 (v.toNat : Int))).frozen? ⟨gC, j, none⟩ = false := fun j => by rw [World.frozen?_setCell]; exact hfr j
      have hgr' := grown_trans hgr (grownSet wr ⟨gC, co + k, none⟩ rfl (.int .u8 (v.toNat : Int)))
      go_wp2_with fail
      go_roundw
      case rel => exact ⟨k + 1, _, by go_num, hlt, hC', hfr', hgr'⟩
      case measure => simp [intOf]; omega
    · obtain rfl : k = y.length := by omega
      have x3w := x36.own (B := some ⟨gC, co, none⟩) hgr (fun k e => by cases e; exact hgC.1)
      have pw := pd.ext x3w
      have hYw := hY.ext x3w
      have xw := x3.trans x3w
      have qw := q6.grown hgr (fun e => by have := Option.some.inj e; omega)
      have how := ho6.kept hgr (by
        by_cases e : blk B = none
        · exact .inl e
        · refine .inr fun e' => ?_
          have := ho6.blk_ge gC e'
          omega)
      clear hC hfr hgr x3w x36 q6 hC6 hfr6 ho6 hyl hlt hk pd hY x3
      go_wp2_with fail
      refine (Hdec.out _ _ _ _ hYw).mono ?_
      rintro e w7 ⟨B2, m2, d2, rfl, ho7, e7⟩
      have pf := pw.ext e7
      have qf := qw.ext e7
      have hlp := pf.lt
      have hlq := qf.lt
      have howf := how.ext e7
      have xf := xw.trans e7
      have hs7 := e7.size
      have hBlt : ∀ k, blk B = some k → k < wr.heap.size := fun k hk => by
        obtain ⟨a, ha, rfl⟩ := Option.map_eq_some_iff.1 hk
        exact (how.base_le a ha).2
      clear pw qw how xw hYw e7
      obtain ⟨p0, p1, p2, p3⟩ := id pf
      obtain ⟨q0, q1, q2, q3⟩ := id qf
      go_wp2_with fail
      generalize hW8 : World.alloc w7 _ = W8
      have e8 : Ext w7 W8 := by subst hW8; exact Ext.alloc _ _
      have r8 : PBox W8 w7.heap.size ta B2 m2 d2 := by subst hW8; exact PBox.new _ _ _ _ _ _ rfl
      have p8 := pf.ext e8
      have q8 := qf.ext e8
      have how8 := howf.ext e8
      have ho8 := ho7.ext e8
      have x8 := xf.trans e8
      clear hW8 e8 pf qf howf ho7 xf p0 p1 p2 p3 q0 q1 q2 q3 hlp hlq
      refine (Hreq.out _ _ _ _ how8.rd (hm.ext x8)).mono ?_
      rintro e w9 ⟨rfl, e9⟩
      have p9 := p8.ext e9
      have q9 := q8.ext e9
      have r9 := r8.ext e9
      have how9 := how8.ext e9
      have ho9 := ho8.ext e9
      have x9 := x8.trans e9
      clear e9 p8 q8 r8 how8 ho8 x8
      obtain ⟨q0, q1, q2, q3⟩ := id q9
      obtain ⟨r0, r1, r2, r3⟩ := id r9
      obtain ⟨p0, p1, p2, p3⟩ := id p9
      obtain ⟨b, o, rfl, g0, g1, g2, g3⟩ := Ro.at_ (k := 0) how9.rd hlen1
      have hfb := how9.free (o + 1)
      have hb5 := hB5 _ rfl
      have hbr := hBlt b rfl
      dsimp only at hb5
      have hml := Ro.len how9.rd
      have hmp : 0 < m := by omega
      have n1 : b ≠ w7.heap.size := by omega
      have n2 : b ≠ w.heap.size := by omega
      have n3 : b ≠ w5.heap.size := by omega
      go_wp2_with fail
      generalize hW10 : World.setCell w9 _ _ = W10
      have hgr : w9.grownBy W10 (some b) := by subst hW10; exact grownSet w9 _ rfl _
      have how10 := Rd.set_ (I := 1) how9.rd (.int .i64 (wrap64 (la[0].2.1 + 1)))
      rw [hW10] at how10
      have x10 : Ext w W10 := by subst hW10; exact x9.setCell (p := ⟨b, o + 1, none⟩) (by show w.heap.size ≤ b; omega) _
      have p10 := p9.grown hgr (fun e => n2 (Option.some.inj e))
      have q10 := q9.grown hgr (fun e => n3 (Option.some.inj e))
      have r10 := r9.grown hgr (fun e => n1 (Option.some.inj e))
      have ho10 := ho9.kept hgr (by
        by_cases e : blk B2 = none
        · exact .inl e
        · refine .inr fun e' => ?_
          have := ho9.blk_ge b e'
          omega)
      clear hW10 hgr p0 p1 p2 p3 q0 q1 q2 q3 r0 r1 r2 r3 p9 q9 r9 how9 ho9 x9 g0 g1 g2 g3 hfb n1 n2 n3
      refine (Hreq.out _ _ _ _ ho10.rd (hm.ext x10)).mono ?_
      rintro e w11 ⟨rfl, e11⟩
      have p11 := p10.ext e11
      have q11 := q10.ext e11
      have how11 := Rd.ext how10 e11
      have x11 := x10.trans e11
      clear e11 p10 q10 r10 how10 ho10 x10
      obtain ⟨p0, p1, p2, p3⟩ := id p11
      obtain ⟨q0, q1, q2, q3⟩ := id q11
      obtain ⟨o0, rest, rfl⟩ : ∃ o0 rest, la = o0 :: rest := by
        cases la with
        | nil => simp at hlen1
        | cons a b => exact ⟨a, b, rfl⟩
      obtain ⟨x, a, y', z⟩ := o0
      have hset : (opcs ((x, a, y', z) :: rest)).set 1 (.int .i64 (wrap64 (a + 1))) = opcs ((x, wrap64 (a + 1), y', z) :: rest) := rfl
      have hne : eqP ta ta ((x, wrap64 (a + 1), y', z) :: rest) ((x, a, y', z) :: rest) = false := by
        unfold eqP
        rw [Bool.and_eq_false_iff]
        right
        refine decide_eq_false fun e => wrap_next a ?_
        injection e with e _
        exact congrArg (fun o : OpT => o.2.1) e
      have hro : Ro w11 (some ⟨b, o, none⟩) m d ((x, wrap64 (a + 1), y', z) :: rest) := by
        have h := how11
        dsimp only [List.getElem_cons_zero] at h
        rw [hset] at h
        exact h
      have heq := eq_is w11 ta _ m d _ ta A na c _ hro (hm.ext x11) hne
      unfold pAgg at heq
      have Heq := Lib.hid heq
      clear heq hro hne hset how11 hm hml
      go_wp2_with fail
      refine Heq.out.mono ?_
      rintro e w12 ⟨rfl, e12⟩
      go_wp2_with fail
      go_ret
      exact ⟨rfl, x11.trans e12⟩
end Go.Proofs.Ytehelhennbcboaa
