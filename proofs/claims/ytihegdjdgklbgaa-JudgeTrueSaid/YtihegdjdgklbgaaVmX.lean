/- vm.Run: a frame over whatever Mem. -/
import Derived.Test.YtihegdjdgklbgaaVmS
namespace Go.Proofs.Ytihegdjdgklbgaa
set_option maxRecDepth 100000
open Go.RowKit
set_option linter.unusedVariables false

/-- Nothing has turned but block b's first 32 cells. -/
def Played (w w' : World) (b : Nat) : Prop := w.grownBy w' (some b) ∧ ∀ j, 32 ≤ j → w'.cell? ⟨b, j, none⟩ = w.cell? ⟨b, j, none⟩ ∧ w'.frozen? ⟨b, j, none⟩ = w.frozen? ⟨b, j, none⟩
theorem Played.of_ext {w w' : World} (h : Ext w w') {b : Nat} (hb : b < w.heap.size) : Played w w' b := ⟨h.grownBy _, fun j _ => ⟨Below.cell h (p := ⟨b, j, none⟩) hb, h.frozen (p := ⟨b, j, none⟩) hb⟩⟩
theorem Played.of_chg {w w1 w' : World} {R b : Nat} (e : Ext w w1) (h : Chg w1 w' R b) (hb : b < w.heap.size) (hR : w.heap.size ≤ R) : Played w w' b := by
  refine ⟨⟨h.os.trans e.os, h.tape.trans e.tape, h.output.trans e.output, Nat.le_trans e.size h.size, fun k hk hn => ?_⟩, fun j hj => ?_⟩
  · exact (h.block k (Nat.lt_of_lt_of_le hk e.size) (by omega) (fun e2 => hn (by rw [e2]))).trans (e.block k hk)
  · have := h.rest (Nat.lt_of_lt_of_le hb e.size) j hj
    exact ⟨this.1.trans (Below.cell e (p := ⟨b, j, none⟩) hb), this.2.trans (e.frozen (p := ⟨b, j, none⟩) hb)⟩
/-- Behind a frame. -/
def RunOf (w : World) (b : Nat) (g : List Int) (n : Nat) (e : Ending) (w' : World) : Prop := e = .returned (.int .i64 (n : Nat)) ∧ Gm w' b g ∧ Played w w' b

theorem ret_int {k : IntKind} {a b : Int} (h : a = b) : Ending.returned (.int k a) = .returned (.int k b) := by rw [h]
def runRel (t press : List UInt8) (frame : Int) (l : List OpT) (w1 : World) (R b : Nat) (A : Option Addr) (n c : Nat) (M : Value) (Pa : Option Addr) (pn pc : Nat) (G' : List Int) (N : Nat) (nv : Value) (wr : World) : Prop :=
  ∃ (i k : Nat) (g : List Int), nv = .int .i64 (i : Nat) ∧ i ≤ 200 ∧ k ≤ l.length ∧ Rn wr R t A n c M frame Pa pn pc k ∧ Gm wr b g ∧ okG g ∧ Chg w1 wr R b ∧ (runN t press frame l (200 - i) k g).1 = G' ∧ (runN t press frame l (200 - i) k g).2 + i = N

theorem run_nil (w : World) (t : List UInt8) (A : Option Addr) (n c : Nat) (frame : Int) (Pa : Option Addr) (pn pc : Nat) :
    Calls Try.prog 42 #[pAgg t A n c, .nilIface, .int .i64 frame, .slice Pa pn pc] w fun e w' => e = .returned (.int .i64 0) ∧ Ext w w' := by
  unfold pAgg
  go_enter Try.func42, Try.ntmps42
  go_wp2_with fail
  go_ret
  exact ⟨rfl, Ext.alloc _ _⟩

set_option maxRecDepth 100000 in
set_option maxHeartbeats 2000000 in
theorem run_no (w : World) (b T : Nat) (t : List UInt8) (A : Option Addr) (n c : Nat) (l : List OpT) (frame : Int) (Pa : Option Addr) (pn pc : Nat)
    (ht : t.length ≤ 1099511627776) (hl : Ro w A n c l) (hf : faultL t l ≠ -1) :
    Calls Try.prog 42 #[pAgg t A n c, .iface T (.pointer (some ⟨b, 0, none⟩)), .int .i64 frame, .slice Pa pn pc] w fun e w' => e = .returned (.int .i64 0) ∧ Ext w w' := by
  have hmay := fun W h => may_is W t A n c l ht h (b := false) (by rw [beq_eq_false_iff_ne]; exact hf)
  unfold pAgg at *
  have Hmay := Lib.hid hmay
  clear hmay hf
  go_enter Try.func42, Try.ntmps42
  go_wp2_with fail
  refine (Hmay.out _ (hl.ext (Ext.alloc _ _))).mono ?_
  rintro e w1 ⟨rfl, e1⟩
  go_wp2_with fail
  go_ret
  exact ⟨rfl, (Ext.alloc _ _).trans e1⟩
set_option maxRecDepth 100000 in
set_option maxHeartbeats 4000000 in
theorem run_yes (w : World) (b T : Nat) {G S : FuncId} (t : List UInt8) (A : Option Addr) (n c : Nat) (l : List OpT) (frame : Int) (Pa : Option Addr) (pn pc : Nat) (press : List UInt8) (g : List Int)
    (hM : MemI T b G S) (ht : t.length ≤ 1099511627776) (hl : Ro w A n c l) (hp : Rb w Pa pn pc press) (hg : Gm w b g) (hok : okG g) (hA : 0 < n → ∀ a, A = some a → a.block ≠ b) (hP : 0 < pn → ∀ a, Pa = some a → a.block ≠ b) (hf : faultL t l = -1) :
    Calls Try.prog 42 #[pAgg t A n c, .iface T (.pointer (some ⟨b, 0, none⟩)), .int .i64 frame, .slice Pa pn pc] w (RunOf w b (runN t press frame l 200 0 g).1 (runN t press frame l 200 0 g).2) := by
  have hmay := fun W h => may_is W t A n c l ht h (b := true) (by rw [hf]; rfl)
  obtain ⟨hl1, hl64, _⟩ := form_len (fault_form hf)
  have hall := fault_all hf
  have hn := hl.len
  have hmx := hl.max
  unfold maxLen at hmx
  have hblt := hg.lt
  unfold pAgg at *
  have Hmay := Lib.hid hmay
  have Hall := Lib.hid hall
  have Hn := Lib.hid hn
  clear hmay hf hall hn
  obtain ⟨G', hG'⟩ : ∃ x, (runN t press frame l 200 0 g).1 = x := ⟨_, rfl⟩
  obtain ⟨N, hN⟩ : ∃ x, (runN t press frame l 200 0 g).2 = x := ⟨_, rfl⟩
  rw [hG', hN]
  have HG := Lib.hid hG'
  have HN := Lib.hid hN
  clear hG' hN
  go_enter Try.func42, Try.ntmps42
  go_wp2_with fail
  refine (Hmay.out _ (hl.ext (Ext.alloc _ _))).mono ?_
  rintro e w1 ⟨rfl, e1⟩
  have x1 := (Ext.alloc w _).trans e1
  have c0 := e1.cell (show (w.alloc (.cells #[.string (bs t), .slice A n c] 24)).cell? ⟨w.heap.size, 0, none⟩ = some (.string (bs t)) by go_simp)
  have c1 := e1.cell (show (w.alloc (.cells #[.string (bs t), .slice A n c] 24)).cell? ⟨w.heap.size, 1, none⟩ = some (.slice A n c) by go_simp)
  clear e1
  go_wp2_with fail
  generalize hV : World.alloc w1 _ = V
  have rV : Rn V w1.heap.size t A n c (.iface T (.pointer (some ⟨b, 0, none⟩))) frame Pa pn pc 0 := by
    subst hV
    refine ⟨?_, ?_, ?_, ?_, ?_, ?_, ?_⟩ <;> go_simp
  have eV : Ext w1 V := by subst hV; exact Ext.alloc _ _
  have xV := x1.trans eV
  have d0 := eV.cell c0
  have d1 := eV.cell c1
  have hwR : w.heap.size ≤ w1.heap.size := x1.size
  have hw1 : w.heap.size < w1.heap.size := World.block_lt_of_cell? w1 _ c0
  have hne : w1.heap.size ≠ b := by omega
  clear hV c0 c1 eV x1
  generalize w1.heap.size = R at *
  go_loopw [10] (fun nv wr => runRel t press frame l V R b A n c (.iface T (.pointer (some ⟨b, 0, none⟩))) Pa pn pc G' N nv wr) (fun nv _ => 200 - (intOf nv).toNat)
  case atStart => exact ⟨0, 0, g, rfl, by omega, by omega, rV, hg.ext xV, hok, Chg.refl _ _ _, HG.out, HN.out⟩
  case round =>
    obtain ⟨i, k, gc, rfl, hi, hk, hr, hgc, hokc, hch, hG, hN⟩ := hrel
    have HG2 := Lib.hid hG
    have HN2 := Lib.hid hN
    clear hG hN
    have q1 : wr.cell? ⟨w.heap.size, 1, none⟩ = some (.slice A n c) := by
      rw [World.cell?_of_block (a := ⟨w.heap.size, 1, none⟩) (hch.block w.heap.size (World.block_lt_of_cell? V _ d1) (by omega) (by omega))]; exact d1
    obtain ⟨r0, r1, r2, r3, r4, r5, r6⟩ := id hr
    by_cases hi2 : i < 200
    · have hid : decide ((i : Int) < 200) = true := decide_eq_true (by omega)
      by_cases hkn : k < n
      · have hj : 0 < 200 - i := by omega
        have hkd : decide (k < n) = true := decide_eq_true hkn
        go_wp2_with fail
        apply wp_region_lex (R := Ext) (by kernel_rfl) (by kernel_rfl) Ext.refl (fun _ _ _ => Ext.trans) (Ext.drew _)
        repeat
          first
            | (apply lex_ex Ext.refl
               · rfl
               · intro W' hR hΦ
                 have f1 := hR.cell q1
                 have f5 := hR.cell r5
                 go_simp
                 first | done | with_reducible rfl
               simp only [Act.put, List.setIfInBounds_toArray, List.set_cons_zero, List.set_cons_succ])
            | (apply lex_skip
               · rfl
               simp only [Act.put, List.setIfInBounds_toArray, List.set_cons_zero, List.set_cons_succ])
        refine lex_nil ?_
        intro W1 hR1 hΦ
        clear hΦ
        have hrW := hr.ext hR1
        have hgW := hgc.ext hR1
        have cW := hch.trans (Chg.of_ext hR1 R b)
        have lW : Ro W1 A n c l := Rd.chg hl xV hwR hA cW
        have pW : ∀ X, Chg W1 X R b → Rb X Pa pn pc press := fun X hX => Rd.chg hp xV hwR hP (cW.trans hX)
        have hkl : k < l.length := by have := Hn.out; omega
        have hmay := Hall.out _ (List.getElem_mem hkl)
        clear r0 r1 r2 r3 r4 r5 r6
        obtain ⟨f, hf⟩ : ∃ f, 200 - i = f + 1 := ⟨199 - i, by omega⟩
        by_cases h0 : l[k].1 = 0
        · have hfin : (runN t press frame l (200 - i) k gc) = (gc, 1) := by rw [hf]; exact runN_halt t press frame l f k gc hkl h0
          have hone := one_halt W1 R b T t A n c l frame Pa pn pc k press gc hM hrW lW (pW _ (Chg.refl _ _ _)) hgW hokc hne hkl hl64 ht (xc := l[k].1) (x := l[k].2.1) (y := l[k].2.2.1) (z := l[k].2.2.2) rfl h0
          have Hone := Lib.hid hone
          have Hfin := Lib.hid hfin
          clear hone hfin h0 hf hmay pW lW
          go_wp2_with fail
          refine Calls.mono Hone.out ?_
          rintro e w2 ⟨rfl, hr2, hg2, hc2⟩
          have hG := HG2.out
          have hN := HN2.out
          rw [Hfin.out] at hG hN
          dsimp only at hG hN
          subst hG
          have HN3 := Lib.hid hN
          clear hN
          clear hi hk hi2 hkn hj hkl hid hkd
          go_wp2_with fail
          go_ret
          exact ⟨ret_int (by have := HN3.out; omega), hg2, Played.of_chg xV (cW.trans hc2) hblt hwR⟩
        · have hgo := runN_go t press frame l f k gc hkl h0
          rw [← hf] at hgo
          obtain ⟨k', hk'⟩ : ∃ x, (oneN t press frame gc k l[k]).2 = x := ⟨_, rfl⟩
          obtain ⟨g', hg'⟩ : ∃ x, (oneN t press frame gc k l[k]).1 = x := ⟨_, rfl⟩
          have hok' : okG g' := hg' ▸ oneN_ok t press frame hokc k l[k]
          have hk2 : k' ≤ l.length := hk' ▸ oneN_at hmay hkl
          rw [hk', hg'] at hgo
          have hone := one_any W1 R b T t A n c l frame Pa pn pc k press gc hM hrW lW pW hgW hokc hne hkl hl64 ht hmay h0 hk' hg'
          have Hone := Lib.hid hone
          have Hgo := Lib.hid hgo
          have Hf := Lib.hid hf
          clear hone hgo h0 hf hmay pW lW hk' hg'
          go_wp2_with fail
          refine Calls.mono Hone.out ?_
          rintro e w2 ⟨rfl, hr2, hg2, hc2⟩
          go_wp2_with fail
          have hG := HG2.out
          have hN := HN2.out
          rw [Hgo.out] at hG hN
          dsimp only at hG hN
          have hfi : 200 - (i + 1) = f := by have := Hf.out; omega
          go_roundw
          case rel => exact ⟨i + 1, k', g', by go_num, by omega, hk2, hr2, hg2, hok', cW.trans hc2, by rw [hfi]; exact hG, by rw [hfi]; omega⟩
          case measure => simp [intOf]; omega
      · have hkd : decide (k < n) = false := decide_eq_false hkn
        have hfin : (runN t press frame l (200 - i) k gc) = (gc, 0) := runN_end t press frame l _ k gc (by have := Hn.out; omega)
        have hG := HG2.out
        have hN := HN2.out
        rw [hfin] at hG hN
        dsimp only at hG hN
        subst hG
        have HN3 := Lib.hid hN
        clear hN hfin
        go_wp2_with fail
        apply wp_region_lex (R := Ext) (by kernel_rfl) (by kernel_rfl) Ext.refl (fun _ _ _ => Ext.trans) (Ext.drew _)
        repeat
          first
            | (apply lex_ex Ext.refl
               · rfl
               · intro W' hR hΦ
                 have f1 := hR.cell q1
                 have f5 := hR.cell r5
                 go_simp
                 first | done | with_reducible rfl
               simp only [Act.put, List.setIfInBounds_toArray, List.set_cons_zero, List.set_cons_succ])
            | (apply lex_skip
               · rfl
               simp only [Act.put, List.setIfInBounds_toArray, List.set_cons_zero, List.set_cons_succ])
        refine lex_nil ?_
        intro W1 hR1 hΦ
        clear hΦ
        go_wp2_with fail
        go_ret
        exact ⟨ret_int (by have := HN3.out; omega), hgc.ext hR1, Played.of_chg xV (hch.trans (Chg.of_ext hR1 R b)) hblt hwR⟩
    · obtain rfl : i = 200 := by omega
      have hG := HG2.out
      have hN := HN2.out
      rw [Nat.sub_self, runN_zero] at hG hN
      dsimp only at hG hN
      subst hG
      have HN3 := Lib.hid hN
      clear hN
      go_wp2_with fail
      apply wp_region_lex (R := Ext) (by kernel_rfl) (by kernel_rfl) Ext.refl (fun _ _ _ => Ext.trans) (Ext.drew _)
      repeat
        first
          | (apply lex_ex Ext.refl
             · rfl
             · intro W' hR hΦ
               have f1 := hR.cell q1
               have f5 := hR.cell r5
               go_simp
               first | done | with_reducible rfl
             simp only [Act.put, List.setIfInBounds_toArray, List.set_cons_zero, List.set_cons_succ])
          | (apply lex_skip
             · rfl
             simp only [Act.put, List.setIfInBounds_toArray, List.set_cons_zero, List.set_cons_succ])
      refine lex_nil ?_
      intro W1 hR1 hΦ
      clear hΦ
      go_wp2_with fail
      go_ret
      exact ⟨by rw [← HN3.out]; rfl, hgc.ext hR1, Played.of_chg xV (hch.trans (Chg.of_ext hR1 R b)) hblt hwR⟩
theorem run_any (w : World) (b T : Nat) {G S : FuncId} (t : List UInt8) (A : Option Addr) (n c : Nat) (l : List OpT) (frame : Int) (Pa : Option Addr) (pn pc : Nat) (press : List UInt8) (g : List Int)
    (hM : MemI T b G S) (ht : t.length ≤ 1099511627776) (hl : Ro w A n c l) (hp : Rb w Pa pn pc press) (hg : Gm w b g) (hok : okG g) (hA : 0 < n → ∀ a, A = some a → a.block ≠ b) (hP : 0 < pn → ∀ a, Pa = some a → a.block ≠ b)
    {G' : List Int} {N : Nat} (hG : (stepN t press frame l g).1 = G') (hN : (stepN t press frame l g).2 = N) :
    Calls Try.prog 42 #[pAgg t A n c, .iface T (.pointer (some ⟨b, 0, none⟩)), .int .i64 frame, .slice Pa pn pc] w (RunOf w b G' N) := by
  subst hG hN
  by_cases hf : faultL t l = -1
  · have e : stepN t press frame l g = runN t press frame l 200 0 g := if_pos hf
    rw [e]
    exact run_yes w b T t A n c l frame Pa pn pc press g hM ht hl hp hg hok hA hP hf
  · have e : stepN t press frame l g = (g, 0) := if_neg hf
    rw [e]
    exact (run_no w b T t A n c l frame Pa pn pc ht hl hf).mono fun _ _ ⟨h1, h2⟩ => ⟨h1, hg.ext h2, Played.of_ext h2 hg.lt⟩
end Go.Proofs.Ytihegdjdgklbgaa
