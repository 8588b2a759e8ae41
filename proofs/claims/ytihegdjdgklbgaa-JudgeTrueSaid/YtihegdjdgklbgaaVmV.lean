/- The reference's Step: a frame over a game by value. -/
import Derived.Test.YtihegdjdgklbgaaVmU
namespace Go.Proofs.Ytihegdjdgklbgaa
set_option maxRecDepth 100000
open Go.RowKit
set_option linter.unusedVariables false

theorem Rd.grownP {w w' : World} {size : Nat} {A : Option Addr} {n c : Nat} {xs : List Value} (h : Rd w size A n c xs) {row : Option Nat} (hg : w.grownBy w' row) (hne : 0 < n → ∀ a, A = some a → row ≠ some a.block) : Rd w' size A n c xs := by
  refine ⟨h.1, h.2.1, h.2.2.1, fun hn => ?_⟩
  exact (h.grown hg (hne (Nat.pos_of_ne_zero fun h0 => by subst h0; simp at hn))).2.2.2 hn
theorem grown_setG (w : World) (b o : Nat) (u : Value) : w.grownBy (w.setCell ⟨b, o, none⟩ u) (some b) := ⟨rfl, rfl, rfl, by simp [World.setCell], fun k _ hk => Below.heap_setCell w _ u k (by rintro rfl; exact hk rfl)⟩
theorem ext_of_grown_new {w0 w w' : World} {b : Nat} (e : Ext w0 w) (h : w.grownBy w' (some b)) (hb : w0.heap.size ≤ b) : Ext w0 w' := Below.trans e (below_of_grown h e.size (fun k hk => by cases hk; exact hb))

def refRel (t press : List UInt8) (frame : Int) (l : List OpT) (w1 : World) (b : Nat) (G' : List Int) (N : Nat) (av nv : Value) (wr : World) : Prop :=
  ∃ (i k : Nat) (g : List Int), av = .int .i64 (k : Nat) ∧ nv = .int .i64 (i : Nat) ∧ i ≤ 200 ∧ k ≤ l.length ∧ Gm wr b g ∧ okG g ∧ w1.grownBy wr (some b) ∧ (runN t press frame l (200 - i) k g).1 = G' ∧ (runN t press frame l (200 - i) k g).2 + i = N

theorem ref_next {t press : List UInt8} {frame : Int} {l : List OpT} {w2 wr' : World} {b : Nat} {G' : List Int} {N f i k k' : Nat} {gc g' : List Int} {op : OpT} {av nv : Value}
    (hc : op.1 ≠ 0) (Hrn : Hid (op.1 ≠ 0 → runN t press frame l (f + 1) k gc = ((runN t press frame l f (oneN t press frame gc k op).2 (oneN t press frame gc k op).1).1, (runN t press frame l f (oneN t press frame gc k op).2 (oneN t press frame gc k op).1).2 + 1)))
    (HG2 : Hid ((runN t press frame l (f + 1) k gc).1 = G')) (HN2 : Hid ((runN t press frame l (f + 1) k gc).2 + i = N)) (Hat : Hid ((oneN t press frame gc k op).2 ≤ l.length)) (Hok : Hid (okG (oneN t press frame gc k op).1)) (Hf : Hid (200 - (i + 1) = f)) (hi : i < 200)
    (hone : oneN t press frame gc k op = (g', k')) (hav : av = .int .i64 (k' : Nat)) (hnv : nv = .int .i64 ((i + 1 : Nat) : Int)) (hgr : w2.grownBy wr' (some b)) (hgm : Gm wr' b g') : refRel t press frame l w2 b G' N av nv wr' := by
  have h1 := Hrn.out hc
  have h2 := HG2.out
  have h3 := HN2.out
  have h4 := Hat.out
  have h5 := Hok.out
  rw [hone] at h1 h4 h5
  rw [h1] at h2 h3
  dsimp only at h2 h3 h4 h5
  exact ⟨i + 1, k', g', hav, hnv, by omega, h4, hgm, h5, hgr, by rw [Hf.out]; exact h2, by rw [Hf.out]; omega⟩
def RefOf (w : World) (g : List Int) (n : Nat) (e : Ending) (w' : World) : Prop := e = .returned (.tuple #[.agg (gcs g), .int .i64 (n : Nat)]) ∧ Ext w w'
theorem ret_two {g : List Int} {a b : Int} (h : a = b) : Ending.returned (.tuple #[.agg (gcs g), .int .i64 a]) = .returned (.tuple #[.agg (gcs g), .int .i64 b]) := by rw [h]

set_option maxRecDepth 100000 in
set_option maxHeartbeats 2000000 in
theorem rstep_no (w : World) (t : List UInt8) (A : Option Addr) (n c : Nat) (l : List OpT) (frame : Int) (Pa : Option Addr) (pn pc : Nat) (g : List Int)
    (ht : t.length ≤ 1099511627776) (hl : Ro w A n c l) (hok : okG g) (hf : faultL t l ≠ -1) :
    Calls Try.prog 19 #[pAgg t A n c, .agg (gcs g), .int .i64 frame, .slice Pa pn pc] w (RefOf w g 0) := by
  have hg32 := hok.1
  obtain ⟨r, hr⟩ : ∃ r, faultL t l = r := ⟨_, rfl⟩
  rw [hr] at hf
  have hrf := fun W h => rfault_any W t A n c l ht h
  rw [hr] at hrf
  have hrb : (r != -1) = true := by rw [bne_iff_ne]; exact hf
  unfold pAgg at *
  have Hrf := Lib.hid hrf
  clear hrf hr hf
  go_enter Try.func19, Try.ntmps19
  go_wp2_with fail
  generalize hV : World.alloc (World.alloc (World.alloc w _) _) _ = V
  have eV : Ext w V := by subst hV; exact ((Ext.alloc _ _).trans (Ext.alloc _ _)).trans (Ext.alloc _ _)
  have bR : Blk V (w.heap.size + 1 + 1) 33 zeroG := by subst hV; exact Blk.new' _ _ (g := zeroG) rfl (by simp)
  have bG : Gm V (w.heap.size + 1) g := by subst hV; exact ((Blk.new' _ _ hg32 (by simp)).ext (Ext.alloc _ _)).gm
  clear hV
  refine (Hrf.out _ (hl.ext eV)).mono ?_
  rintro e w1 ⟨rfl, e1⟩
  have gW := bG.ext e1
  have rW := bR.ext e1
  go_wp2_with (first
    | (with_reducible refine wpList_load_gm rfl 33 (.tmp 5) rfl rfl Try.underlying33 size_game gW ?_)
    | (with_reducible refine wpList_store_blk rfl 33 (.tmp 8) (.tmp 19) rfl rfl rfl rW hg32 size_game ?_))
  have hgm := (rW.setRow hg32).gm
  exact bodyPost_ret (v := .tuple #[.agg (gcs g), .int .i64 0]) (result_gm2 rfl _ rfl rfl hgm Try.underlying33 size_game) rfl ⟨rfl, (eV.trans e1).setRow (by omega) _⟩

set_option maxRecDepth 100000 in
set_option maxHeartbeats 20000000 in
theorem rstep_yes (w : World) (t : List UInt8) (A : Option Addr) (n c : Nat) (l : List OpT) (frame : Int) (Pa : Option Addr) (pn pc : Nat) (press : List UInt8) (g : List Int)
    (ht : t.length ≤ 1099511627776) (hl : Ro w A n c l) (hp : Rb w Pa pn pc press) (hok : okG g) (hf : faultL t l = -1) :
    Calls Try.prog 19 #[pAgg t A n c, .agg (gcs g), .int .i64 frame, .slice Pa pn pc] w (RefOf w (runN t press frame l 200 0 g).1 (runN t press frame l 200 0 g).2) := by
  have hg32 := hok.1
  have hrf := fun W h => rfault_any W t A n c l ht h
  rw [hf] at hrf
  obtain ⟨hl1, hl64, _⟩ := form_len (fault_form hf)
  have hall := fault_all hf
  have hn := hl.len
  have hmx := hl.max
  unfold maxLen at hmx
  unfold pAgg at *
  have Hrf := Lib.hid hrf
  have Hall := Lib.hid hall
  have Hn := Lib.hid hn
  obtain ⟨G', hG'⟩ : ∃ x, (runN t press frame l 200 0 g).1 = x := ⟨_, rfl⟩
  obtain ⟨N, hN⟩ : ∃ x, (runN t press frame l 200 0 g).2 = x := ⟨_, rfl⟩
  have hG32 : G'.length = 32 := by rw [← hG']; exact (runN_ok t press frame l 200 0 hok).1.1
  rw [hG', hN]
  have HG := Lib.hid hG'
  have HN := Lib.hid hN
  have HG32 := Lib.hid hG32
  clear hrf hf hall hn hG' hN hG32
  go_enter Try.func19, Try.ntmps19
  go_wp2_with fail
  generalize hV : World.alloc (World.alloc (World.alloc w _) _) _ = V
  have eV : Ext w V := by subst hV; exact ((Ext.alloc _ _).trans (Ext.alloc _ _)).trans (Ext.alloc _ _)
  have bR : Blk V (w.heap.size + 1 + 1) 33 zeroG := by subst hV; exact Blk.new' _ _ (g := zeroG) rfl (by simp)
  have bG : Gm V (w.heap.size + 1) g := by subst hV; exact ((Blk.new' _ _ hg32 (by simp)).ext (Ext.alloc _ _)).gm
  have c0 : V.cell? ⟨w.heap.size, 0, none⟩ = some (.string (bs t)) := by subst hV; go_simp
  have c1 : V.cell? ⟨w.heap.size, 1, none⟩ = some (.slice A n c) := by subst hV; go_simp
  clear hV
  refine (Hrf.out _ (hl.ext eV)).mono ?_
  rintro e w1 ⟨rfl, e1⟩
  have d0 := e1.cell c0
  have d1 := e1.cell c1
  go_wp2_with fail
  refine (runes_any _ t ht).mono ?_
  rintro e w2 ⟨B, d, rfl, hoB, e2⟩
  have q0 := e2.cell d0
  have q1 := e2.cell d1
  have e12 := e1.trans e2
  have xW := eV.trans e12
  have gW := bG.ext e12
  have rW := bR.ext e12
  have hbB : ∀ k, blk B = some k → w.heap.size + 1 < k := fun k hk => by have := hoB.blk_ge k hk; have := bG.lt; have := e1.size; omega
  clear c0 c1 d0 d1 e1 e2 bG bR Hrf e12
  obtain ⟨b, hb⟩ : ∃ b, w.heap.size + 1 = b := ⟨_, rfl⟩
  have hb2 : w.heap.size < b := by omega
  have Hb := Lib.hid hb
  rw [hb] at gW rW hbB
  clear hb
  go_wp2_with fail
  rw [Hb.out]
  generalize w1.heap.size = B1 at *
  go_loopw [10, 11] (fun av nv wr => refRel t press frame l w2 b G' N av nv wr) (fun _ nv _ => 200 - (intOf nv).toNat)
  case atStart => exact ⟨0, 0, g, rfl, rfl, by omega, by omega, gW, hok, World.grownBy.refl _ _, HG.out, HN.out⟩
  case round =>
    obtain ⟨i, k, gc, rfl, rfl, hi, hk, hgc, hokc, hch, hG, hN⟩ := hrel
    have HG2 := Lib.hid hG
    have HN2 := Lib.hid hN
    clear hG hN
    have p1 : wr.cell? ⟨w.heap.size, 1, none⟩ = some (.slice A n c) := hch.cell q1 (by simp; omega)
    have rR := rW.grown hch (by simp)
    have xR := ext_of_grown_new xW hch (by omega)
    have lW : Ro wr A n c l := Rd.grownP (Rd.ext hl xW) hch (fun h a ha => by have := Rd.lt hl (by omega) a ha; simp; omega)
    have pW : Rb wr Pa pn pc press := Rd.grownP (Rd.ext hp xW) hch (fun h a ha => by have := Rd.lt hp (by omega) a ha; simp; omega)
    have oW := hoB.kept hch (.inr (fun e => by have := hbB b e; omega))
    by_cases hrun : i < 200 ∧ k < n
    · obtain ⟨hi2, hkn⟩ := hrun
      have hkl : k < l.length := by have := Hn.out; omega
      have hmay := Hall.out _ (List.getElem_mem hkl)
      obtain ⟨ab, ao, rfl, o0, o1, o2, o3⟩ := lW.at_ hkl
      obtain ⟨f, hf⟩ : ∃ f, 200 - i = f + 1 := ⟨199 - i, by omega⟩
      have hfi : 200 - (i + 1) = f := by omega
      have Hrn0 := Lib.hid (fun h0 => runN_halt t press frame l f k gc hkl h0)
      have Hrn := Lib.hid (fun h0 => runN_go t press frame l f k gc hkl h0)
      have Hat := Lib.hid (oneN_at (t := t) (press := press) (frame := frame) (g := gc) hmay hkl)
      have Hok := Lib.hid (oneN_ok t press frame hokc k l[k])
      have hw := may_ways hmay
      have habw : ab < wr.heap.size := World.block_lt_of_cell? wr _ o0
      have hbw := hgc.lt
      rw [hf] at HG2 HN2
      have Hf := Lib.hid hfi
      clear hf hfi hmay lW
      generalize l[k] = op at *
      obtain ⟨xc, x, y, z⟩ := op
      dsimp only at o0 o1 o2 o3 hw
      by_cases hx : xc = 0
      · subst hx
        have hfin := Hrn0.out rfl
        have hG := HG2.out
        have hN := HN2.out
        rw [hfin] at hG hN
        dsimp only at hG hN
        subst hG
        have HN3 := Lib.hid hN
        have g1 := hgc.ext (Ext.alloc wr (.cells #[.int .i64 0, .int .i64 x, .int .i64 y, .int .i64 z] 46))
        have r1 := rR.ext (Ext.alloc wr (.cells #[.int .i64 0, .int .i64 x, .int .i64 y, .int .i64 z] 46))
        have x1 := xR.trans (Ext.alloc wr (.cells #[.int .i64 0, .int .i64 x, .int .i64 y, .int .i64 z] 46))
        clear hN hfin Hrn0 Hrn Hat Hok hw
        go_wp2_with (first
            | (with_reducible refine wpList_load_gm rfl 33 (.tmp 5) rfl rfl Try.underlying33 size_game g1 ?_)
            | (with_reducible refine wpList_store_blk rfl 33 (.tmp 8) (.tmp 62) rfl rfl rfl r1 HG32.out size_game ?_))
        exact bodyPost_ret (v := .tuple #[.agg (gcs gc), .int .i64 ((i : Int) + 1)]) (result_gm2 rfl _ rfl rfl (r1.setRow HG32.out).gm Try.underlying33 size_game) rfl ⟨ret_two (by have := HN3.out; omega), x1.setRow (by omega) _⟩
      by_cases hx : xc = 1
      · subst hx
        have eW1 := Ext.alloc wr (.cells #[.int .i64 1, .int .i64 x, .int .i64 y, .int .i64 z] 46)
        have g1 := hgc.ext eW1
        have x0 : 0 ≤ x := by omega
        have x1 : x ≤ 31 := by omega
        obtain ⟨sx, fx⟩ := hgc.at_ (i := x) (by omega) (by omega)
        have ltx : x < 32 := by omega
        clear hw Hrn0
        go_wp2_with fail
        have hR2 := Ext.refl (wr.alloc (.cells #[.int .i64 1, .int .i64 x, .int .i64 y, .int .i64 z] 46))
        go_roundw
        case rel => exact ref_next (by show _ ≠ _; omega) Hrn HG2 HN2 Hat Hok Hf hi2 (g' := setN gc x (w32 y)) (k' := k + 1) (by simp [oneN, valN]) (by go_num) (by go_num) (((hch.trans (grown_setG wr b _ _)).trans ((Ext.alloc _ _).grownBy _))) (by rw [wrap32_is]; exact (hgc.set_ x0 x1 (w32 y)).ext (Ext.alloc _ _))
        case measure => simp [intOf]; omega
      by_cases hx : xc = 9
      · subst hx
        obtain ⟨X, rfl⟩ := Int.eq_ofNat_of_zero_le (show 0 ≤ x by omega)
        have eW1 := Ext.alloc wr (.cells #[.int .i64 9, .int .i64 X, .int .i64 y, .int .i64 z] 46)
        have g1 := hgc.ext eW1
        clear hw Hrn0
        go_wp2_with fail
        go_roundw
        case rel => exact ref_next (by show _ ≠ _; omega) Hrn HG2 HN2 Hat Hok Hf hi2 (g' := gc) (k' := X) (by simp [oneN]) (by go_num) (by go_num) (hch.trans (eW1.grownBy _)) (g1)
        case measure => simp [intOf]; omega
      by_cases hx : xc = 10
      · subst hx
        obtain ⟨Y, rfl⟩ := Int.eq_ofNat_of_zero_le (show 0 ≤ y by omega)
        have eW1 := Ext.alloc wr (.cells #[.int .i64 10, .int .i64 x, .int .i64 Y, .int .i64 z] 46)
        have g1 := hgc.ext eW1
        have x0 : 0 ≤ x := by omega
        obtain ⟨sx, fx⟩ := hgc.at_ (i := x) (by omega) (by omega)
        have ltx : x < 32 := by omega
        clear hw Hrn0
        by_cases hz : getN gc x = 0
        · have hz1 : (getN gc x == 0) = true := by rw [hz]; rfl
          have Hz := Lib.hid hz
          clear hz
          go_wp2_with fail
          go_roundw
          case rel => exact ref_next (by show _ ≠ _; omega) Hrn HG2 HN2 Hat Hok Hf hi2 (g' := gc) (k' := Y) (by simp [oneN, Hz.out]) (by go_num) (by go_num) (hch.trans (eW1.grownBy _)) (g1)
          case measure => simp [intOf]; omega
        · have hz1 : (getN gc x == 0) = false := by rw [beq_eq_false_iff_ne]; exact hz
          have Hz := Lib.hid hz
          clear hz
          go_wp2_with fail
          go_roundw
          case rel => exact ref_next (by show _ ≠ _; omega) Hrn HG2 HN2 Hat Hok Hf hi2 (g' := gc) (k' := k + 1) (by simp [oneN, Hz.out]) (by go_num) (by go_num) (hch.trans (eW1.grownBy _)) (g1)
          case measure => simp [intOf]; omega
      by_cases hx : xc = 2
      · subst hx
        have x0 : 0 ≤ x := by omega
        have x1 : x ≤ 31 := by omega
        have y0 : 0 ≤ y := by omega
        have y1 : y ≤ 31 := by omega
        clear hw Hrn0
        go_wp2_with fail
        generalize hW1 : World.alloc wr _ = W1
        have eW1 : Ext wr W1 := by subst hW1; exact Ext.alloc _ _
        have v0 : W1.cell? ⟨wr.heap.size, 0, none⟩ = some (.int .i64 2) := by subst hW1; go_simp
        have v1 : W1.cell? ⟨wr.heap.size, 1, none⟩ = some (.int .i64 x) := by subst hW1; go_simp
        have v2 : W1.cell? ⟨wr.heap.size, 2, none⟩ = some (.int .i64 y) := by subst hW1; go_simp
        have v3 : W1.cell? ⟨wr.heap.size, 3, none⟩ = some (.int .i64 z) := by subst hW1; go_simp
        have g1 := hgc.ext eW1
        have p1 := pW.ext eW1
        clear hW1
        obtain ⟨sx, fx⟩ := g1.at_ (i := x) (by omega) (by omega)
        have ltx : x < 32 := by omega
        obtain ⟨sy, fy⟩ := g1.at_ (i := y) (by omega) (by omega)
        have lty : y < 32 := by omega
        apply wp_region_lex_tails 7 (R := Ext) (by decide) (by kernel_rfl) (by kernel_rfl) (by kernel_rfl) Ext.refl (fun _ _ _ => Ext.trans) (Ext.drew _)
        simp only [List.take_succ_cons, List.take_zero]
        repeat
          apply lex_ex Ext.refl
          · rfl
          · intro W' hR hΦ
            have d0 := hR.cell v0
            have d1 := hR.cell v1
            have d2 := hR.cell v2
            have d3 := hR.cell v3
            have d4 := hR.cell sx
            have d5 := hR.cell sy
            go_simp
            first | done | with_reducible rfl
          simp only [Act.put, List.setIfInBounds_toArray, List.set_cons_zero, List.set_cons_succ]
        refine lex_nil ?_
        intro W2 hR2 hΦ
        clear hΦ
        simp only [List.drop_succ_cons, List.drop_zero]
        have g2 := g1.ext hR2
        obtain ⟨su, fu⟩ := g2.at_ (i := x) (by omega) (by omega)
        have ltu : x < 32 := by omega
        go_wp2_with fail
        go_roundw
        case rel => exact ref_next (by show _ ≠ _; omega) Hrn HG2 HN2 Hat Hok Hf hi2 (g' := setN gc x (getN gc y)) (k' := k + 1) (by simp [oneN, valN]) (by go_num) (by go_num) (((hch.trans ((eW1.trans hR2).grownBy _)).trans (grown_setG _ b _ _))) (g2.set_ x0 x1 _)
        case measure => simp [intOf]; omega
      by_cases hx : xc = 11
      · subst hx
        have x0 : 0 ≤ x := by omega
        have x1 : x ≤ 31 := by omega
        have y0 : 0 ≤ y := by omega
        have y1 : y ≤ 31 := by omega
        have hyk := getN_ok hokc y
        clear hw Hrn0
        go_wp2_with fail
        generalize hW1 : World.alloc wr _ = W1
        have eW1 : Ext wr W1 := by subst hW1; exact Ext.alloc _ _
        have v0 : W1.cell? ⟨wr.heap.size, 0, none⟩ = some (.int .i64 11) := by subst hW1; go_simp
        have v1 : W1.cell? ⟨wr.heap.size, 1, none⟩ = some (.int .i64 x) := by subst hW1; go_simp
        have v2 : W1.cell? ⟨wr.heap.size, 2, none⟩ = some (.int .i64 y) := by subst hW1; go_simp
        have v3 : W1.cell? ⟨wr.heap.size, 3, none⟩ = some (.int .i64 z) := by subst hW1; go_simp
        have g1 := hgc.ext eW1
        have p1 := pW.ext eW1
        clear hW1
        obtain ⟨sx, fx⟩ := g1.at_ (i := x) (by omega) (by omega)
        have ltx : x < 32 := by omega
        obtain ⟨sy, fy⟩ := g1.at_ (i := y) (by omega) (by omega)
        have lty : y < 32 := by omega
        apply wp_region_lex_tails 9 (R := Ext) (by decide) (by kernel_rfl) (by kernel_rfl) (by kernel_rfl) Ext.refl (fun _ _ _ => Ext.trans) (Ext.drew _)
        simp only [List.take_succ_cons, List.take_zero]
        repeat
          apply lex_ex Ext.refl
          · rfl
          · intro W' hR hΦ
            have d0 := hR.cell v0
            have d1 := hR.cell v1
            have d2 := hR.cell v2
            have d3 := hR.cell v3
            have d4 := hR.cell sx
            have d5 := hR.cell sy
            go_simp
            first | done | with_reducible rfl
          simp only [Act.put, List.setIfInBounds_toArray, List.set_cons_zero, List.set_cons_succ]
        apply lex_callx
        · rfl
        · intro W'
          go_simp
          exact ⟨rfl, rfl⟩
        · intro W' hR hΦ
          refine (pressed_is _ Pa pn pc press (p1.ext hR) _ hyk).mono ?_
          rintro e w' ⟨rfl, rfl⟩
          exact ⟨rfl, Ext.refl _⟩
        simp only [Act.put, List.setIfInBounds_toArray, List.set_cons_zero, List.set_cons_succ]
        repeat
          apply lex_ex Ext.refl
          · rfl
          · intro W' hR hΦ
            have d0 := hR.cell v0
            have d1 := hR.cell v1
            have d2 := hR.cell v2
            have d3 := hR.cell v3
            have d4 := hR.cell sx
            have d5 := hR.cell sy
            go_simp
            first | done | with_reducible rfl
          simp only [Act.put, List.setIfInBounds_toArray, List.set_cons_zero, List.set_cons_succ]
        refine lex_nil ?_
        intro W2 hR2 hΦ
        clear hΦ
        simp only [List.drop_succ_cons, List.drop_zero]
        have g2 := g1.ext hR2
        obtain ⟨su, fu⟩ := g2.at_ (i := x) (by omega) (by omega)
        have ltu : x < 32 := by omega
        go_wp2_with fail
        go_roundw
        case rel => exact ref_next (by show _ ≠ _; omega) Hrn HG2 HN2 Hat Hok Hf hi2 (g' := setN gc x (inN press (getN gc y))) (k' := k + 1) (by simp [oneN, valN]) (by go_num) (by go_num) (((hch.trans ((eW1.trans hR2).grownBy _)).trans (grown_setG _ b _ _))) (g2.set_ x0 x1 _)
        case measure => simp [intOf]; omega
      by_cases hx : xc = 12
      · subst hx
        have x0 : 0 ≤ x := by omega
        have x1 : x ≤ 31 := by omega
        have y0 : 0 ≤ y := by omega
        have y1 : y ≤ 31 := by omega
        have hyk := getN_ok hokc y
        clear hw Hrn0
        obtain ⟨r, hr⟩ : ∃ r, remN (getN gc y) = r := ⟨_, rfl⟩
        have hrl := remN_lt (getN gc y)
        rw [hr] at hrl
        have hmod := fun W => rmod_is W (getN gc y) hyk
        rw [hr] at hmod
        have Hmod := Lib.hid hmod
        have Hr := Lib.hid hr
        clear hmod hr
        go_wp2_with fail
        generalize hW1 : World.alloc wr _ = W1
        have eW1 : Ext wr W1 := by subst hW1; exact Ext.alloc _ _
        have v0 : W1.cell? ⟨wr.heap.size, 0, none⟩ = some (.int .i64 12) := by subst hW1; go_simp
        have v1 : W1.cell? ⟨wr.heap.size, 1, none⟩ = some (.int .i64 x) := by subst hW1; go_simp
        have v2 : W1.cell? ⟨wr.heap.size, 2, none⟩ = some (.int .i64 y) := by subst hW1; go_simp
        have v3 : W1.cell? ⟨wr.heap.size, 3, none⟩ = some (.int .i64 z) := by subst hW1; go_simp
        have g1 := hgc.ext eW1
        have p1 := pW.ext eW1
        clear hW1
        obtain ⟨sx, fx⟩ := g1.at_ (i := x) (by omega) (by omega)
        have ltx : x < 32 := by omega
        obtain ⟨sy, fy⟩ := g1.at_ (i := y) (by omega) (by omega)
        have lty : y < 32 := by omega
        obtain ⟨sr, fr⟩ := g1.at_ (i := ((r : Nat) : Int)) (by omega) (by omega)
        have ltr : ((r : Nat) : Int) < 32 := by omega
        rw [Int.toNat_natCast] at sr fr
        apply wp_region_lex_tails 10 (R := Ext) (by decide) (by kernel_rfl) (by kernel_rfl) (by kernel_rfl) Ext.refl (fun _ _ _ => Ext.trans) (Ext.drew _)
        simp only [List.take_succ_cons, List.take_zero]
        repeat
          apply lex_ex Ext.refl
          · rfl
          · intro W' hR hΦ
            have d0 := hR.cell v0
            have d1 := hR.cell v1
            have d2 := hR.cell v2
            have d3 := hR.cell v3
            have d4 := hR.cell sx
            have d5 := hR.cell sy
            go_simp
            first | done | with_reducible rfl
          simp only [Act.put, List.setIfInBounds_toArray, List.set_cons_zero, List.set_cons_succ]
        apply lex_callx
        · rfl
        · intro W'
          go_simp
          exact ⟨rfl, rfl⟩
        · intro W' hR hΦ
          refine (Hmod.out _).mono ?_
          rintro e w' ⟨rfl, rfl⟩
          exact ⟨rfl, Ext.refl _⟩
        simp only [Act.put, List.setIfInBounds_toArray, List.set_cons_zero, List.set_cons_succ]
        repeat
          apply lex_ex Ext.refl
          · rfl
          · intro W' hR hΦ
            have d0 := hR.cell v0
            have d1 := hR.cell v1
            have d2 := hR.cell v2
            have d3 := hR.cell v3
            have d4 := hR.cell sx
            have d5 := hR.cell sy
            have d6 := hR.cell sr
            go_simp
            first | done | with_reducible rfl
          simp only [Act.put, List.setIfInBounds_toArray, List.set_cons_zero, List.set_cons_succ]
        refine lex_nil ?_
        intro W2 hR2 hΦ
        clear hΦ
        simp only [List.drop_succ_cons, List.drop_zero]
        have g2 := g1.ext hR2
        obtain ⟨su, fu⟩ := g2.at_ (i := x) (by omega) (by omega)
        have ltu : x < 32 := by omega
        go_wp2_with fail
        go_roundw
        case rel => exact ref_next (by show _ ≠ _; omega) Hrn HG2 HN2 Hat Hok Hf hi2 (g' := setN gc x (getN gc (r : Nat))) (k' := k + 1) (by simp [oneN, valN, Hr.out]) (by go_num) (by go_num) (((hch.trans ((eW1.trans hR2).grownBy _)).trans (grown_setG _ b _ _))) (g2.set_ x0 x1 _)
        case measure => simp [intOf]; omega
      by_cases hx : xc = 13
      · subst hx
        have x0 : 0 ≤ x := by omega
        have x1 : x ≤ 31 := by omega
        have y0 : 0 ≤ y := by omega
        have y1 : y ≤ 31 := by omega
        have hxk := getN_ok hokc x
        clear hw Hrn0
        obtain ⟨r, hr⟩ : ∃ r, remN (getN gc x) = r := ⟨_, rfl⟩
        have hrl := remN_lt (getN gc x)
        rw [hr] at hrl
        have hmod := fun W => rmod_is W (getN gc x) hxk
        rw [hr] at hmod
        have Hmod := Lib.hid hmod
        have Hr := Lib.hid hr
        clear hmod hr
        go_wp2_with fail
        generalize hW1 : World.alloc wr _ = W1
        have eW1 : Ext wr W1 := by subst hW1; exact Ext.alloc _ _
        have v0 : W1.cell? ⟨wr.heap.size, 0, none⟩ = some (.int .i64 13) := by subst hW1; go_simp
        have v1 : W1.cell? ⟨wr.heap.size, 1, none⟩ = some (.int .i64 x) := by subst hW1; go_simp
        have v2 : W1.cell? ⟨wr.heap.size, 2, none⟩ = some (.int .i64 y) := by subst hW1; go_simp
        have v3 : W1.cell? ⟨wr.heap.size, 3, none⟩ = some (.int .i64 z) := by subst hW1; go_simp
        have g1 := hgc.ext eW1
        have p1 := pW.ext eW1
        clear hW1
        obtain ⟨sx, fx⟩ := g1.at_ (i := x) (by omega) (by omega)
        have ltx : x < 32 := by omega
        obtain ⟨sy, fy⟩ := g1.at_ (i := y) (by omega) (by omega)
        have lty : y < 32 := by omega
        obtain ⟨sr, fr⟩ := g1.at_ (i := ((r : Nat) : Int)) (by omega) (by omega)
        have ltr : ((r : Nat) : Int) < 32 := by omega
        rw [Int.toNat_natCast] at sr fr
        apply wp_region_lex_tails 10 (R := Ext) (by decide) (by kernel_rfl) (by kernel_rfl) (by kernel_rfl) Ext.refl (fun _ _ _ => Ext.trans) (Ext.drew _)
        simp only [List.take_succ_cons, List.take_zero]
        repeat
          apply lex_ex Ext.refl
          · rfl
          · intro W' hR hΦ
            have d0 := hR.cell v0
            have d1 := hR.cell v1
            have d2 := hR.cell v2
            have d3 := hR.cell v3
            have d4 := hR.cell sx
            have d5 := hR.cell sy
            go_simp
            first | done | with_reducible rfl
          simp only [Act.put, List.setIfInBounds_toArray, List.set_cons_zero, List.set_cons_succ]
        apply lex_callx
        · rfl
        · intro W'
          go_simp
          exact ⟨rfl, rfl⟩
        · intro W' hR hΦ
          refine (Hmod.out _).mono ?_
          rintro e w' ⟨rfl, rfl⟩
          exact ⟨rfl, Ext.refl _⟩
        simp only [Act.put, List.setIfInBounds_toArray, List.set_cons_zero, List.set_cons_succ]
        repeat
          apply lex_ex Ext.refl
          · rfl
          · intro W' hR hΦ
            have d0 := hR.cell v0
            have d1 := hR.cell v1
            have d2 := hR.cell v2
            have d3 := hR.cell v3
            have d4 := hR.cell sx
            have d5 := hR.cell sy
            have d6 := hR.cell sr
            go_simp
            first | done | with_reducible rfl
          simp only [Act.put, List.setIfInBounds_toArray, List.set_cons_zero, List.set_cons_succ]
        refine lex_nil ?_
        intro W2 hR2 hΦ
        clear hΦ
        simp only [List.drop_succ_cons, List.drop_zero]
        have g2 := g1.ext hR2
        obtain ⟨su, fu⟩ := g2.at_ (i := ((r : Nat) : Int)) (by omega) (by omega)
        have ltu : ((r : Nat) : Int) < 32 := by omega
        rw [Int.toNat_natCast] at su fu
        go_wp2_with fail
        go_roundw
        case rel => exact ref_next (by show _ ≠ _; omega) Hrn HG2 HN2 Hat Hok Hf hi2 (g' := setN gc (r : Nat) (getN gc y)) (k' := k + 1) (by simp [oneN, Hr.out]) (by go_num) (by go_num) (((hch.trans ((eW1.trans hR2).grownBy _)).trans (grown_setG _ b _ _))) (g2.set_ (i := (r : Nat)) (by omega) (by omega) _)
        case measure => simp [intOf]; omega
      by_cases hx : xc = 15
      · subst hx
        have x0 : 0 ≤ x := by omega
        have x1 : x ≤ 31 := by omega
        clear hw Hrn0
        go_wp2_with fail
        generalize hW1 : World.alloc wr _ = W1
        have eW1 : Ext wr W1 := by subst hW1; exact Ext.alloc _ _
        have v0 : W1.cell? ⟨wr.heap.size, 0, none⟩ = some (.int .i64 15) := by subst hW1; go_simp
        have v1 : W1.cell? ⟨wr.heap.size, 1, none⟩ = some (.int .i64 x) := by subst hW1; go_simp
        have v2 : W1.cell? ⟨wr.heap.size, 2, none⟩ = some (.int .i64 y) := by subst hW1; go_simp
        have v3 : W1.cell? ⟨wr.heap.size, 3, none⟩ = some (.int .i64 z) := by subst hW1; go_simp
        have g1 := hgc.ext eW1
        have p1 := pW.ext eW1
        clear hW1
        obtain ⟨sx, fx⟩ := g1.at_ (i := x) (by omega) (by omega)
        have ltx : x < 32 := by omega
        apply wp_region_lex_tails 5 (R := Ext) (by decide) (by kernel_rfl) (by kernel_rfl) (by kernel_rfl) Ext.refl (fun _ _ _ => Ext.trans) (Ext.drew _)
        simp only [List.take_succ_cons, List.take_zero]
        repeat
          apply lex_ex Ext.refl
          · rfl
          · intro W' hR hΦ
            have d0 := hR.cell v0
            have d1 := hR.cell v1
            have d2 := hR.cell v2
            have d3 := hR.cell v3
            have d4 := hR.cell sx
            go_simp
            first | done | with_reducible rfl
          simp only [Act.put, List.setIfInBounds_toArray, List.set_cons_zero, List.set_cons_succ]
        apply lex_callx
        · rfl
        · intro W'
          go_simp
          exact ⟨rfl, rfl⟩
        · intro W' hR hΦ
          refine (round_is _ frame).mono ?_
          rintro e w' ⟨rfl, rfl⟩
          exact ⟨rfl, Ext.refl _⟩
        simp only [Act.put, List.setIfInBounds_toArray, List.set_cons_zero, List.set_cons_succ]
        repeat
          apply lex_ex Ext.refl
          · rfl
          · intro W' hR hΦ
            have d0 := hR.cell v0
            have d1 := hR.cell v1
            have d2 := hR.cell v2
            have d3 := hR.cell v3
            have d4 := hR.cell sx
            go_simp
            first | done | with_reducible rfl
          simp only [Act.put, List.setIfInBounds_toArray, List.set_cons_zero, List.set_cons_succ]
        refine lex_nil ?_
        intro W2 hR2 hΦ
        clear hΦ
        simp only [List.drop_succ_cons, List.drop_zero]
        have g2 := g1.ext hR2
        obtain ⟨su, fu⟩ := g2.at_ (i := x) (by omega) (by omega)
        have ltu : x < 32 := by omega
        go_wp2_with fail
        go_roundw
        case rel => exact ref_next (by show _ ≠ _; omega) Hrn HG2 HN2 Hat Hok Hf hi2 (g' := setN gc x (w32 frame)) (k' := k + 1) (by simp [oneN, valN]) (by go_num) (by go_num) (((hch.trans ((eW1.trans hR2).grownBy _)).trans (grown_setG _ b _ _))) (g2.set_ x0 x1 _)
        case measure => simp [intOf]; omega
      by_cases hx : xc = 14
      · subst hx
        have x0 : 0 ≤ x := by omega
        have x1 : x ≤ 31 := by omega
        have y0 : 0 ≤ y := by omega
        have y1 : y ≤ 31 := by omega
        have hyk := getN_ok hokc y
        unfold ok32 at hyk
        have eW1 := Ext.alloc wr (.cells #[.int .i64 14, .int .i64 x, .int .i64 y, .int .i64 z] 46)
        have g1 := hgc.ext eW1
        obtain ⟨sx, fx⟩ := hgc.at_ (i := x) (by omega) (by omega)
        have ltx : x < 32 := by omega
        obtain ⟨sy, fy⟩ := hgc.at_ (i := y) (by omega) (by omega)
        have lty : y < 32 := by omega
        have hR2 := Ext.refl (wr.alloc (.cells #[.int .i64 14, .int .i64 x, .int .i64 y, .int .i64 z] 46))
        clear hw Hrn0
        have hrl := rs_len t
        obtain ⟨yv, hyv⟩ : ∃ v, getN gc y = v := ⟨_, rfl⟩
        have hru : runeN t (getN gc y) = runeN t yv := by rw [hyv]
        have Hru := Lib.hid hru
        rw [hyv] at sy hyk
        clear hru hyv
        by_cases hn0 : yv < 0
        · have hv : ((runeN t yv : Nat) : Int) = 0 := by unfold runeN; rw [if_neg (by omega)]; rfl
          have Hv := Lib.hid hv
          have hd0 : decide (0 ≤ yv) = false := decide_eq_false (by omega)
          clear hv
          go_wp2_with fail
          go_roundw
          case rel => exact ref_next (by show _ ≠ _; omega) Hrn HG2 HN2 Hat Hok Hf hi2 (g' := setN gc x 0) (k' := k + 1) (by simp [oneN, valN, Hru.out, Hv.out]) (by go_num) (by go_num) (((hch.trans (grown_setG wr b _ _)).trans ((Ext.alloc _ _).grownBy _))) ((hgc.set_ x0 x1 _).ext (Ext.alloc _ _))
          case measure => simp [intOf]; omega
        obtain ⟨Y, rfl⟩ := Int.eq_ofNat_of_zero_le (show 0 ≤ yv by omega)
        by_cases hn1 : Y < (rs t).length
        · obtain ⟨rb, ro, rfl, hrc⟩ := rune_at oW hn1
          have hv : ((runeN t (Y : Nat) : Nat) : Int) = ((rs t)[Y].1 : Nat) := by unfold runeN; rw [if_pos (by omega), Int.toNat_natCast, List.getElem?_eq_getElem hn1]; rfl
          have Hv := Lib.hid hv
          have hrw : rb < wr.heap.size := World.block_lt_of_cell? wr _ hrc
          clear hv
          generalize (rs t)[Y].1 = rv at *
          have hd1 : decide (Y < (rs t).length) = true := decide_eq_true hn1
          go_wp2_with fail
          go_roundw
          case rel => exact ref_next (by show _ ≠ _; omega) Hrn HG2 HN2 Hat Hok Hf hi2 (g' := setN gc x (rv : Nat)) (k' := k + 1) (by simp [oneN, valN, Hru.out, Hv.out]) (by go_num) (by go_num) (((hch.trans (grown_setG wr b _ _)).trans ((Ext.alloc _ _).grownBy _))) ((hgc.set_ x0 x1 _).ext (Ext.alloc _ _))
          case measure => simp [intOf]; omega
        · have hv : ((runeN t (Y : Nat) : Nat) : Int) = 0 := by unfold runeN; rw [if_pos (by omega), Int.toNat_natCast, List.getElem?_eq_none (by omega)]; rfl
          have Hv := Lib.hid hv
          have hd1 : decide (Y < (rs t).length) = false := decide_eq_false hn1
          clear hv
          go_wp2_with fail
          go_roundw
          case rel => exact ref_next (by show _ ≠ _; omega) Hrn HG2 HN2 Hat Hok Hf hi2 (g' := setN gc x 0) (k' := k + 1) (by simp [oneN, valN, Hru.out, Hv.out]) (by go_num) (by go_num) (((hch.trans (grown_setG wr b _ _)).trans ((Ext.alloc _ _).grownBy _))) ((hgc.set_ x0 x1 _).ext (Ext.alloc _ _))
          case measure => simp [intOf]; omega
      by_cases hx : 3 ≤ xc ∧ xc ≤ 8
      · have x0 : 0 ≤ x := by omega
        have x1 : x ≤ 31 := by omega
        have y0 : 0 ≤ y := by omega
        have y1 : y ≤ 31 := by omega
        have z0 : 0 ≤ z := by omega
        have z1 : z ≤ 31 := by omega
        have hyk := getN_ok hokc y
        have hzk := getN_ok hokc z
        have n0 : (xc == 0) = false := by rw [beq_eq_false_iff_ne]; omega
        have n1 : (xc == 1) = false := by rw [beq_eq_false_iff_ne]; omega
        have n2 : (xc == 2) = false := by rw [beq_eq_false_iff_ne]; omega
        have n9 : (xc == 9) = false := by rw [beq_eq_false_iff_ne]; omega
        have n10 : (xc == 10) = false := by rw [beq_eq_false_iff_ne]; omega
        have n11 : (xc == 11) = false := by rw [beq_eq_false_iff_ne]; omega
        have n12 : (xc == 12) = false := by rw [beq_eq_false_iff_ne]; omega
        have n13 : (xc == 13) = false := by rw [beq_eq_false_iff_ne]; omega
        have n14 : (xc == 14) = false := by rw [beq_eq_false_iff_ne]; omega
        have n15 : (xc == 15) = false := by rw [beq_eq_false_iff_ne]; omega
        clear hw Hrn0
        go_wp2_with fail
        generalize hW1 : World.alloc wr _ = W1
        have eW1 : Ext wr W1 := by subst hW1; exact Ext.alloc _ _
        have v0 : W1.cell? ⟨wr.heap.size, 0, none⟩ = some (.int .i64 xc) := by subst hW1; go_simp
        have v1 : W1.cell? ⟨wr.heap.size, 1, none⟩ = some (.int .i64 x) := by subst hW1; go_simp
        have v2 : W1.cell? ⟨wr.heap.size, 2, none⟩ = some (.int .i64 y) := by subst hW1; go_simp
        have v3 : W1.cell? ⟨wr.heap.size, 3, none⟩ = some (.int .i64 z) := by subst hW1; go_simp
        have g1 := hgc.ext eW1
        have p1 := pW.ext eW1
        clear hW1
        obtain ⟨sx, fx⟩ := g1.at_ (i := x) (by omega) (by omega)
        have ltx : x < 32 := by omega
        obtain ⟨sy, fy⟩ := g1.at_ (i := y) (by omega) (by omega)
        have lty : y < 32 := by omega
        obtain ⟨sz, fz⟩ := g1.at_ (i := z) (by omega) (by omega)
        have ltz : z < 32 := by omega
        apply wp_region_lex_tails 14 (R := Ext) (by decide) (by kernel_rfl) (by kernel_rfl) (by kernel_rfl) Ext.refl (fun _ _ _ => Ext.trans) (Ext.drew _)
        simp only [List.take_succ_cons, List.take_zero]
        repeat
          apply lex_ex Ext.refl
          · rfl
          · intro W' hR hΦ
            have d0 := hR.cell v0
            have d1 := hR.cell v1
            have d2 := hR.cell v2
            have d3 := hR.cell v3
            have d4 := hR.cell sx
            have d5 := hR.cell sy
            have d6 := hR.cell sz
            go_simp
            first | done | with_reducible rfl
          simp only [Act.put, List.setIfInBounds_toArray, List.set_cons_zero, List.set_cons_succ]
        apply lex_callx
        · rfl
        · intro W'
          go_simp
          exact ⟨rfl, rfl⟩
        · intro W' hR hΦ
          refine (reckon_is _ xc _ _ hyk hzk).mono ?_
          rintro e w' ⟨rfl, rfl⟩
          exact ⟨rfl, Ext.refl _⟩
        simp only [Act.put, List.setIfInBounds_toArray, List.set_cons_zero, List.set_cons_succ]
        repeat
          apply lex_ex Ext.refl
          · rfl
          · intro W' hR hΦ
            have d0 := hR.cell v0
            have d1 := hR.cell v1
            have d2 := hR.cell v2
            have d3 := hR.cell v3
            have d4 := hR.cell sx
            have d5 := hR.cell sy
            have d6 := hR.cell sz
            go_simp
            first | done | with_reducible rfl
          simp only [Act.put, List.setIfInBounds_toArray, List.set_cons_zero, List.set_cons_succ]
        refine lex_nil ?_
        intro W2 hR2 hΦ
        clear hΦ
        simp only [List.drop_succ_cons, List.drop_zero]
        have g2 := g1.ext hR2
        obtain ⟨su, fu⟩ := g2.at_ (i := x) (by omega) (by omega)
        have ltu : x < 32 := by omega
        go_wp2_with fail
        go_roundw
        case rel => exact ref_next (by show _ ≠ _; omega) Hrn HG2 HN2 Hat Hok Hf hi2 (g' := setN gc x (sumN xc (getN gc y) (getN gc z))) (k' := k + 1) (by simp only [oneN, valN]; rw [if_neg (by omega), if_neg (by omega), if_neg (by omega), if_neg (by omega), if_neg (by omega), if_neg (by omega), if_neg (by omega), if_neg (by omega), if_neg (by omega)]) (by go_num) (by go_num) (((hch.trans ((eW1.trans hR2).grownBy _)).trans (grown_setG _ b _ _))) (g2.set_ x0 x1 _)
        case measure => simp [intOf]; omega
      omega
    by_cases hi2 : i < 200
    · have hkn : ¬ k < n := fun h => hrun ⟨hi2, h⟩
      have hkd : decide (k < n) = false := decide_eq_false hkn
      have hid : decide ((i : Int) < 200) = true := decide_eq_true (by omega)
      have hfin : runN t press frame l (200 - i) k gc = (gc, 0) := runN_end t press frame l _ k gc (by have := Hn.out; omega)
      have hG := HG2.out
      have hN := HN2.out
      rw [hfin] at hG hN
      dsimp only at hG hN
      subst hG
      have HN3 := Lib.hid hN
      clear hN hfin hrun hkn
      go_wp2_with (first
          | (with_reducible refine wpList_load_gm rfl 33 (.tmp 5) rfl rfl Try.underlying33 size_game hgc ?_)
          | (with_reducible refine wpList_store_blk rfl 33 (.tmp 8) (.tmp 164) rfl rfl rfl rR HG32.out size_game ?_))
      exact bodyPost_ret (v := .tuple #[.agg (gcs gc), .int .i64 ((i : Int))]) (result_gm2 rfl _ rfl rfl (rR.setRow HG32.out).gm Try.underlying33 size_game) rfl ⟨ret_two (by have := HN3.out; omega), xR.setRow (by omega) _⟩
    · obtain rfl : i = 200 := by omega
      have hfin : runN t press frame l (200 - 200) k gc = (gc, 0) := rfl
      have hG := HG2.out
      have hN := HN2.out
      rw [hfin] at hG hN
      dsimp only at hG hN
      subst hG
      have HN3 := Lib.hid hN
      clear hN hfin hrun hi2
      go_wp2_with (first
          | (with_reducible refine wpList_load_gm rfl 33 (.tmp 5) rfl rfl Try.underlying33 size_game hgc ?_)
          | (with_reducible refine wpList_store_blk rfl 33 (.tmp 8) (.tmp 164) rfl rfl rfl rR HG32.out size_game ?_))
      exact bodyPost_ret (v := .tuple #[.agg (gcs gc), .int .i64 (200)]) (result_gm2 rfl _ rfl rfl (rR.setRow HG32.out).gm Try.underlying33 size_game) rfl ⟨ret_two (by have := HN3.out; omega), xR.setRow (by omega) _⟩

theorem rstep_any (w : World) (t : List UInt8) (A : Option Addr) (n c : Nat) (l : List OpT) (frame : Int) (Pa : Option Addr) (pn pc : Nat) (press : List UInt8) (g : List Int)
    (ht : t.length ≤ 1099511627776) (hl : Ro w A n c l) (hp : Rb w Pa pn pc press) (hok : okG g) {G' : List Int} {N : Nat} (hG : (stepN t press frame l g).1 = G') (hN : (stepN t press frame l g).2 = N) :
    Calls Try.prog 19 #[pAgg t A n c, .agg (gcs g), .int .i64 frame, .slice Pa pn pc] w (RefOf w G' N) := by
  subst hG hN
  by_cases hf : faultL t l = -1
  · have e : stepN t press frame l g = runN t press frame l 200 0 g := if_pos hf
    rw [e]
    exact rstep_yes w t A n c l frame Pa pn pc press g ht hl hp hok hf
  · have e : stepN t press frame l g = (g, 0) := if_neg hf
    rw [e]
    exact rstep_no w t A n c l frame Pa pn pc g ht hl hok hf
end Go.Proofs.Ytihegdjdgklbgaa
