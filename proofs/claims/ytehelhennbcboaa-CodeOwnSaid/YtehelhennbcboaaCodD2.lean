/- The walk of code.Decode. -/
import Derived.Test.YtehelhennbcboaaCodD
namespace Go.Proofs.Ytehelhennbcboaa
open Go.RowKit

/-- An operation's box: four cells that may be written. -/
def FBox (w : World) (g : Nat) (x a b c : Int) : Prop :=
  (w.cell? ⟨g, 0, none⟩ = some (.int .i64 x) ∧ w.cell? ⟨g, 1, none⟩ = some (.int .i64 a) ∧ w.cell? ⟨g, 2, none⟩ = some (.int .i64 b) ∧ w.cell? ⟨g, 3, none⟩ = some (.int .i64 c)) ∧
  w.frozen? ⟨g, 0, none⟩ = false ∧ w.frozen? ⟨g, 1, none⟩ = false ∧ w.frozen? ⟨g, 2, none⟩ = false ∧ w.frozen? ⟨g, 3, none⟩ = false
section
variable {w w' : World} {g : Nat} {x a b c : Int}
theorem FBox.lt (h : FBox w g x a b c) : g < w.heap.size := World.block_lt_of_cell? w _ h.1.1
theorem FBox.new (w : World) (T : TypeId) (x a b c : Int) {g : Nat} (hg : g = w.heap.size) : FBox (w.alloc (.cells #[.int .i64 x, .int .i64 a, .int .i64 b, .int .i64 c] T)) g x a b c := by
  subst hg
  refine ⟨⟨?_, ?_, ?_, ?_⟩, ?_, ?_, ?_, ?_⟩ <;> go_simp
theorem FBox.grown (h : FBox w g x a b c) {row : Option Nat} (hg : w.grownBy w' row) (hne : row ≠ some g) : FBox w' g x a b c := by
  have hb := hg.block g h.lt (fun e => hne e.symm)
  have hf : ∀ o, w'.frozen? ⟨g, o, none⟩ = w.frozen? ⟨g, o, none⟩ := fun o => by simp [World.frozen?, hb]
  have hc : ∀ o, w'.cell? ⟨g, o, none⟩ = w.cell? ⟨g, o, none⟩ := fun o => World.cell?_of_block (a := ⟨g, o, none⟩) hb
  exact ⟨⟨(hc 0).trans h.1.1, (hc 1).trans h.1.2.1, (hc 2).trans h.1.2.2.1, (hc 3).trans h.1.2.2.2⟩, (hf 0).trans h.2.1, (hf 1).trans h.2.2.1, (hf 2).trans h.2.2.2.1, (hf 3).trans h.2.2.2.2⟩
theorem FBox.ext (h : FBox w g x a b c) (e : Ext w w') : FBox w' g x a b c := h.grown (e.grownBy none) (by simp)
theorem FBox.set1 (h : FBox w g x a b c) (u : Int) : FBox (w.setCell ⟨g, 1, none⟩ (.int .i64 u)) g x u b c := by
  obtain ⟨⟨h0, h1, h2, h3⟩, f0, f1, f2, f3⟩ := h
  refine ⟨⟨?_, ?_, ?_, ?_⟩, ?_, ?_, ?_, ?_⟩ <;> go_simp
theorem FBox.set2 (h : FBox w g x a b c) (u : Int) : FBox (w.setCell ⟨g, 2, none⟩ (.int .i64 u)) g x a u c := by
  obtain ⟨⟨h0, h1, h2, h3⟩, f0, f1, f2, f3⟩ := h
  refine ⟨⟨?_, ?_, ?_, ?_⟩, ?_, ?_, ?_, ?_⟩ <;> go_simp
theorem FBox.set3 (h : FBox w g x a b c) (u : Int) : FBox (w.setCell ⟨g, 3, none⟩ (.int .i64 u)) g x a b u := by
  obtain ⟨⟨h0, h1, h2, h3⟩, f0, f1, f2, f3⟩ := h
  refine ⟨⟨?_, ?_, ?_, ?_⟩, ?_, ?_, ?_, ?_⟩ <;> go_simp
end
/-- A row of another block leaves a program that grows as it is. -/
theorem Grow.grown {w w' : World} {b0 g : Nat} {t : List UInt8} {B : Option Addr} {n d : Nat} {l : List OpT} (h : Grow w b0 g t B n d l) {row : Option Nat} (hg : w.grownBy w' row) (hne : row ≠ some g) (hB : blk B ≠ row ∨ blk B = none) : Grow w' b0 g t B n d l :=
  ⟨h.1.grown hg hne, h.2.1.kept hg hB.symm, h.2.2⟩
theorem some_ne {a b : Nat} (h : a ≠ b) : (some a : Option Nat) ≠ some b := fun e => h (Option.some.inj e)

/-- What Decode leaves. -/
def DecOf (w : World) (b : List UInt8) (r : Ending) (w' : World) : Prop :=
  (decB b = none ∧ r = .returned (.tuple #[pAgg [] none 0 0, .int .i64 1]) ∧ Ext w w') ∨
  (∃ t l, decB b = some (t, l) ∧ ∃ B m d, r = .returned (.tuple #[pAgg t B m d, .int .i64 0]) ∧ Own w' w.heap.size 30 4 B m d (opcs l) ∧ Ext w w')

/-- What is told of bytes as a text lies within them. -/
theorem text_bd (b : List UInt8) : (textL b).2.2 = 0 → (textL b).2.1 ≤ b.length := by
  have h := @get_bd b
  unfold textL
  dsimp only
  split
  · intro e; exact absurd e (by assumption)
  · rename_i h0
    split
    · intro e; cases e
    · split
      · intro e; cases e
      · intro _
        have := h (by omega)
        dsimp only
        omega
theorem text_len (b : List UInt8) : (textL b).1.length ≤ 65536 := by
  unfold textL
  dsimp only
  split
  · simp
  · split
    · simp
    · split
      · simp
      · dsimp only
        rw [List.length_take, List.length_drop]; omega
theorem beq_is (w : World) (A : Option Addr) (n c : Nat) (l : List UInt8) (A' : Option Addr) (n' c' : Nat) (l' : List UInt8) (hr : Rb w A n c l) (hr' : Rb w A' n' c' l') {r : Bool} (hq : decide (l = l') = r) :
    Calls Try.prog 38 #[.slice A n c, .slice A' n' c'] w fun e w' => e = .returned (.bool r) ∧ w = w' := by
  subst hq
  have h1 := run_string_of (P := Try.prog) w 36 9 5 Try.underlying36 Try.underlying5 Try.underlying9 A n c l hr
  have h2 := run_string_of (P := Try.prog) w 36 9 5 Try.underlying36 Try.underlying5 Try.underlying9 A' n' c' l' hr'
  go_enter Try.func38, Try.ntmps38
  go_wp2_with fail
  go_ret
  refine ⟨?_, rfl⟩
  have : (l == l') = decide (l = l') := by rw [Bool.eq_iff_iff]; simp
  rw [← this]; rfl
/-- How many operations a program's box holds. -/
def opsLen (w : World) (g : Nat) : Nat := match w.cell? ⟨g, 1, none⟩ with | some (.slice _ n _) => n | _ => 0
theorem opsLen_of {w : World} {g : Nat} {t : List UInt8} {A : Option Addr} {n c : Nat} (h : PBox w g t A n c) : opsLen w g = n := by unfold opsLen; rw [h.2.1]
def dcRel (w : World) (t : List UInt8) (fin : List OpT × (List UInt8 × Bool)) (k : Value) (w' : World) : Prop :=
  ∃ (f : Nat) (x : Int) (ops : List OpT) (s : List UInt8 × Bool) (B : Option Addr) (m d : Nat), k = .int .i64 x ∧ okI x ∧ f + ops.length = 65 ∧ RowKit.Hid (rdOps f x ops s = fin) ∧ Rdr w' w.heap.size (w.heap.size + 1) s ∧
    Grow w' (w.heap.size + 1 + 1) (w.heap.size + 1 + 1) t B m d ops ∧ PBox w' w.heap.size [] none 0 0 ∧ Ext w w'

set_option maxRecDepth 100000 in
set_option maxHeartbeats 4000000 in
theorem cdecode_any (w : World) (A : Option Addr) (n c : Nat) (b : List UInt8) (hr : Rb w A n c b) :
    Calls Try.prog 22 #[.slice A n c] w (DecOf w b) := by
  have hn := hr.len
  have hmx := hr.max
  unfold maxLen at hmx
  subst hn
  have htx := text_any A b.length c b (w.alloc (.cells #[.string (bs []), .slice none 0 0] 24)) (hr.ext (Ext.alloc _ _))
  obtain ⟨i0, hi, hz0, hz1, hz2⟩ := info_parts info_op
  obtain ⟨t, k, er, htl⟩ : ∃ t k er, textL b = (t, k, er) := ⟨_, _, _, rfl⟩
  rw [htl] at htx
  dsimp only at htx
  have Htl := Lib.hid htl
  have Htx := Lib.hid htx
  have Hpb := Lib.hid (PBox.new w 24 [] none 0 0 rfl)
  clear htl htx
  by_cases he : er = 0
  · subst he
    have hb0 : 0 < b.length := by
      rcases Nat.eq_zero_or_pos b.length with h | h
      · have := List.eq_nil_of_length_eq_zero h
        have h2 := Htl.out
        rw [this] at h2
        have h3 : (textL []).2.2 = 2 := by decide
        rw [h2] at h3
        cases h3
      · exact h
    have htlen : t.length ≤ 1099511627776 := by
      have := text_len b
      rw [Htl.out] at this
      exact Nat.le_trans this (by decide)
    have htb := text_bd b
    rw [Htl.out] at htb
    have hkb : k ≤ b.length := htb rfl
    have hA := Rd.lt hr (by omega)
    obtain ⟨A', hA', hr'⟩ := hr.cut hkb
    have hA2 : ∀ a, A' = some a → a.block < w.heap.size := fun a ha => by
      rw [← hA'] at ha
      obtain ⟨b1, hb1, hb2⟩ := cut_block ha
      rw [← hb2]; exact hA b1 hb1
    have HA2 := Lib.hid hA2
    clear hA2 hA htb
    go_enter Try.func22, Try.ntmps22
    go_wp2_with fail
    refine Calls.mono Htx.out ?_
    rintro e w' ⟨rfl, rfl⟩
    go_wp2_with fail
    generalize hW0 : World.alloc (World.alloc (World.alloc w _) _) _ = W0
    have x0 : Ext w W0 := by subst hW0; exact ((Ext.alloc _ _).trans (Ext.alloc _ _)).trans (Ext.alloc _ _)
    have hp0 : PBox W0 w.heap.size [] none 0 0 := by subst hW0; exact (Hpb.out.ext (Ext.alloc _ _)).ext (Ext.alloc _ _)
    have hr0 : Rdr W0 w.heap.size (w.heap.size + 1) (b.drop k, false) := by
      subst hW0
      exact ⟨A', b.length - k, c - k, (RBox.new _ _ _ _ _ _ (by simp)).ext (Ext.alloc _ _), ((hr'.ext (Ext.alloc _ _)).ext (Ext.alloc _ _)).ext (Ext.alloc _ _), HA2.out, by omega⟩
    have hG0 : Grow W0 (w.heap.size + 1 + 1) (w.heap.size + 1 + 1) t none 0 0 [] := by subst hW0; exact Grow.start _ _ _ (by simp)
    clear hW0
    refine (rnum_any W0 _ _ _ hr0).mono ?_
    rintro e w1 ⟨rfl, hr1, hg1⟩
    have x1 := Ext.own (B := some ⟨w.heap.size + 1, 0, none⟩) x0 hg1 (fun k hk => by simp [blk] at hk; omega)
    have hp1 := hp0.grown hg1 (by intro e; have := Option.some.inj e; omega)
    have hG1 := hG0.grown hg1 (by intro e; have := Option.some.inj e; omega) (.inr rfl)
    have hfin : runD b = (t, rdOps 65 (rdN (b.drop k, false)).1 [] (rdN (b.drop k, false)).2) := by unfold runD; rw [Htl.out]
    have Hfin := Lib.hid hfin
    have hok0 : okI (rdN (b.drop k, false)).1 := get_ok _
    clear hp0 hr0 hG0 hg1 hfin
    generalize rdN (b.drop k, false) = s0 at *
    obtain ⟨k0, s0⟩ := s0
    dsimp only at hr1 hok0 Hfin
    go_wp2_with fail
    go_loopw [9] (fun k w' => dcRel w t (rdOps 65 k0 [] s0) k w') (fun _ w' => 66 - opsLen w' (w.heap.size + 1 + 1))
    case atStart => exact ⟨65, k0, [], s0, none, 0, 0, rfl, hok0, rfl, Lib.hid rfl, hr1, hG1, hp1, x1⟩
    case round =>
      obtain ⟨f, x, ops, s, B, m, d, rfl, hx, hf, hfin, hrd, hG, hpb, hxt⟩ := hrel
      unfold okI at hx
      have hm := hG.len
      have hopl := opsLen_of hG.1
      obtain ⟨p0, p1, p2, p3⟩ := id hG.1
      by_cases hgo : 0 < x ∧ s.2 = false ∧ ops.length ≤ 64
      · obtain ⟨g1, g2, g3⟩ := hgo
        obtain ⟨f, rfl⟩ : ∃ f', f = f' + 1 := ⟨f - 1, by omega⟩
        have hstep : rdOps (f + 1) x ops s = rdOps f (x - 1) (ops ++ [(rdOp s).1]) (rdOp s).2 := by
          show (if 0 < x ∧ s.2 = false then _ else _) = _
          rw [if_pos ⟨g1, g2⟩]
        have Hstep := Lib.hid hstep
        obtain ⟨RA, RN, RC, hrb, hrest⟩ := id hrd
        obtain ⟨r0, r1, r2, r3⟩ := id hrb
        rw [g2] at r1
        have hm64 : m ≤ 64 := by omega
        have Hm := Lib.hid hm
        have Hopl := Lib.hid hopl
        have Hg2 := Lib.hid g2
        clear hstep hm hopl g2 hrb hrest
        have hB7 : blk B ≠ some (w.heap.size + 1) := fun e => by have := hG.2.1.blk_ge _ e; omega
        have hB2 : blk B ≠ some w.heap.size := fun e => by have := hG.2.1.blk_ge _ e; omega
        have hBlt : ∀ k, blk B = some k → k < wr.heap.size := fun k e => by
          obtain ⟨ad, h3, h4⟩ := Option.map_eq_some_iff.1 e
          have := (hG.2.1.base_le ad h3).2
          omega
        have hg8lt := hG.1.lt
        go_wp2_with fail
        clear r0 r1 r2 r3 p0 p1 p2 p3
        refine (rnum_any wr _ _ s hrd).mono ?_
        rintro e w1 ⟨rfl, R1, h1⟩
        have G1 := hG.grown h1 (some_ne (by omega)) (.inl hB7)
        have P1 := hpb.grown h1 (some_ne (by omega))
        have X1 : Ext w w1 := Ext.own (B := some ⟨w.heap.size + 1, 0, none⟩) hxt h1 (fun k hk => by simp [blk] at hk; omega)
        have hsz1 := h1.size
        clear h1
        go_wp2_with fail
        generalize hV1 : World.alloc w1 _ = V1
        have eV1 : Ext w1 V1 := by subst hV1; exact Ext.alloc _ _
        obtain ⟨g, hgg⟩ : ∃ g, w1.heap.size = g := ⟨_, rfl⟩
        have F1 : FBox V1 g (rdN s).1 0 0 0 := by subst hV1 hgg; exact FBox.new _ _ _ _ _ _ rfl
        have hg7 : w.heap.size + 1 < g := by omega
        have hBg : blk B ≠ some g := fun e => by have := hBlt g e; omega
        have hgg8 : g ≠ w.heap.size + 1 + 1 := by omega
        have R1' := R1.ext eV1
        have G1' := G1.ext eV1
        have P1' := P1.ext eV1
        have X1' := X1.trans eV1
        rw [hgg]
        have Hgg := Lib.hid hgg
        clear hV1 hgg R1 G1 P1 X1 eV1
        refine (rnum_any V1 _ _ _ R1').mono ?_
        rintro e w2 ⟨rfl, R2, h2⟩
        have F2 := F1.grown h2 (some_ne (by omega))
        have G2a := G1'.grown h2 (some_ne (by omega)) (.inl hB7)
        have P2a := P1'.grown h2 (some_ne (by omega))
        have X2a : Ext w w2 := Ext.own (B := some ⟨w.heap.size + 1, 0, none⟩) X1' h2 (fun k hk => by simp [blk] at hk; omega)
        obtain ⟨⟨t0, t1, t2, t3⟩, f0, f1, f2, f3⟩ := id F2
        clear h2
        have R2' := R2.grown (grownSet (g := g) w2 ⟨g, 1, none⟩ rfl (.int .i64 (rdN (rdN s).2).1)) (fun k hk => by have := Option.some.inj hk; omega)
        have G2 := G2a.grown (grownSet (g := g) w2 ⟨g, 1, none⟩ rfl (.int .i64 (rdN (rdN s).2).1)) (some_ne (by omega)) (.inl hBg)
        have P2 := P2a.grown (grownSet (g := g) w2 ⟨g, 1, none⟩ rfl (.int .i64 (rdN (rdN s).2).1)) (some_ne (by omega))
        have X2 : Ext w (w2.setCell ⟨g, 1, none⟩ (.int .i64 (rdN (rdN s).2).1)) := X2a.setCell (by show w.heap.size ≤ g; omega) _
        have F2' := F2.set1 (rdN (rdN s).2).1
        go_wp2_with fail
        clear t0 t1 t2 t3 f0 f1 f2 f3 R2 G2a P2a X2a F2
        refine (rnum_any _ _ _ _ R2').mono ?_
        rintro e w3 ⟨rfl, R3, h3⟩
        have F3 := F2'.grown h3 (some_ne (by omega))
        have G3a := G2.grown h3 (some_ne (by omega)) (.inl hB7)
        have P3a := P2.grown h3 (some_ne (by omega))
        have X3a : Ext w w3 := Ext.own (B := some ⟨w.heap.size + 1, 0, none⟩) X2 h3 (fun k hk => by simp [blk] at hk; omega)
        obtain ⟨⟨t0, t1, t2, t3⟩, f0, f1, f2, f3⟩ := id F3
        clear h3
        have R3' := R3.grown (grownSet (g := g) w3 ⟨g, 2, none⟩ rfl (.int .i64 (rdN (rdN (rdN s).2).2).1)) (fun k hk => by have := Option.some.inj hk; omega)
        have G3 := G3a.grown (grownSet (g := g) w3 ⟨g, 2, none⟩ rfl (.int .i64 (rdN (rdN (rdN s).2).2).1)) (some_ne (by omega)) (.inl hBg)
        have P3 := P3a.grown (grownSet (g := g) w3 ⟨g, 2, none⟩ rfl (.int .i64 (rdN (rdN (rdN s).2).2).1)) (some_ne (by omega))
        have X3 : Ext w (w3.setCell ⟨g, 2, none⟩ (.int .i64 (rdN (rdN (rdN s).2).2).1)) := X3a.setCell (by show w.heap.size ≤ g; omega) _
        have F3' := F3.set2 (rdN (rdN (rdN s).2).2).1
        go_wp2_with fail
        clear t0 t1 t2 t3 f0 f1 f2 f3 R3 G3a P3a X3a F3
        refine (rnum_any _ _ _ _ R3').mono ?_
        rintro e w4 ⟨rfl, R4, h4⟩
        have F4 := F3'.grown h4 (some_ne (by omega))
        have G4a := G3.grown h4 (some_ne (by omega)) (.inl hB7)
        have P4a := P3.grown h4 (some_ne (by omega))
        have X4a : Ext w w4 := Ext.own (B := some ⟨w.heap.size + 1, 0, none⟩) X3 h4 (fun k hk => by simp [blk] at hk; omega)
        obtain ⟨⟨t0, t1, t2, t3⟩, f0, f1, f2, f3⟩ := id F4
        clear h4
        have R4' := R4.grown (grownSet (g := g) w4 ⟨g, 3, none⟩ rfl (.int .i64 (rdN (rdN (rdN (rdN s).2).2).2).1)) (fun k hk => by have := Option.some.inj hk; omega)
        have G4 := G4a.grown (grownSet (g := g) w4 ⟨g, 3, none⟩ rfl (.int .i64 (rdN (rdN (rdN (rdN s).2).2).2).1)) (some_ne (by omega)) (.inl hBg)
        have P4 := P4a.grown (grownSet (g := g) w4 ⟨g, 3, none⟩ rfl (.int .i64 (rdN (rdN (rdN (rdN s).2).2).2).1)) (some_ne (by omega))
        have X4 : Ext w (w4.setCell ⟨g, 3, none⟩ (.int .i64 (rdN (rdN (rdN (rdN s).2).2).2).1)) := X4a.setCell (by show w.heap.size ≤ g; omega) _
        obtain ⟨p0, p1, p2, p3⟩ := id G4a.1
        go_wp2_with (at_builtin; refine wpList_append_at _ rfl _ _ 22 rfl (w.heap.size + 1 + 1) 30 i0 (.agg #[.int .i64 0, .int .i64 0, .int .i64 0, .int .i64 0]) 4 32 Try.underlying22 hi hz0 hz1 hz2 rfl (by decide) B m d _ rfl G4.2.1 1 (ocs ((rdN s).1, (rdN (rdN s).2).1, (rdN (rdN (rdN s).2).2).1, (rdN (rdN (rdN (rdN s).2).2).2).1)) _ (by simp) rfl rfl (by simp [ocs, Value.oneCell']) (by unfold maxLen; omega) (by omega) G4.lt ?_; intro B' d' w' ho' hg' hw'; obtain ⟨z0, z1, z2, z3⟩ := G4.mid hg')
        have hrow : ∀ k, blk B = some k → w.heap.size ≤ k ∧ k ≠ w.heap.size + 1 := fun k hk => ⟨by have := hG.2.1.blk_ge k hk; omega, fun e => hB7 (by rw [hk, e])⟩
        have hW := grownSet (g := w.heap.size + 1 + 1) w' ⟨w.heap.size + 1 + 1, 1, none⟩ rfl (.slice B' (m + 1) d')
        have G5 := G4.push (o := ((rdN s).1, (rdN (rdN s).2).1, (rdN (rdN (rdN s).2).2).1, (rdN (rdN (rdN (rdN s).2).2).2).1)) hg' ho' hw'
        have R5 := (R4'.grown hg' hrow).grown hW (fun k hk => by have := Option.some.inj hk; omega)
        have P5 := (P4.grown hg' hB2).grown hW (some_ne (by omega))
        have X5 := G4.out (W0 := w) (by omega) X4 hg' (.slice B' (m + 1) d')
        have hl5 := opsLen_of G5.1
        go_roundw
        case rel => exact ⟨f, x - 1, ops ++ [(rdOp s).1], (rdOp s).2, B', m + 1, d', rfl, by unfold okI; omega, by rw [List.length_append]; simp; omega, Lib.hid (by rw [← Hstep.out]; exact hfin.out), R5, G5, P5, X5⟩
        case measure => rw [hl5, Hopl.out]; omega
      · have hfin2 : (ops, s) = rdOps 65 k0 [] s0 := by
          rw [← hfin.out]
          cases f with
          | zero => rfl
          | succ f =>
            show _ = (if 0 < x ∧ s.2 = false then _ else _)
            rw [if_neg (fun h => hgo ⟨h.1, h.2, by omega⟩)]
        have Hfin2 := Lib.hid hfin2
        have Hm := Lib.hid hm
        obtain ⟨RA, RN, RC, hrb, hrest⟩ := id hrd
        obtain ⟨r0, r1, r2, r3⟩ := id hrb
        obtain ⟨sb, bad⟩ := s
        dsimp only at r1 hgo
        have hways : (bad = true ∧ (x ≤ 0 ∨ 0 < x)) ∨ (bad = false ∧ (x ≤ 0 ∨ 0 < x ∧ 64 < m)) := by
          cases bad
          · refine .inr ⟨rfl, ?_⟩
            by_cases h1 : 0 < x
            · exact .inr ⟨h1, by rw [Hm.out]; exact Nat.lt_of_not_le fun h => hgo ⟨h1, rfl, h⟩⟩
            · exact .inl (by omega)
          · exact .inl ⟨rfl, by omega⟩
        have hrun : runD b = (t, (ops, (sb, bad))) := by rw [Hfin.out, hfin2]
        have Hrun := Lib.hid hrun
        have Henc := Lib.hid (encode_any wr t B m d ops htlen hG.ro)
        have hnil := fun (W : World) (a : Option Addr) (n c : Nat) => Lib.run_eql_slice_nil (P := Try.prog) W 36 5 a n c 0 0 Try.underlying36
        unfold pAgg at Henc
        clear hfin2 hm hgo hrb hrest hopl hrun
        rcases hways with ⟨rfl, h1 | h1⟩ | ⟨rfl, h1 | ⟨h1, h3⟩⟩
        rotate_left 2
        rotate_left 2
        iterate 2
          · have Hd : RowKit.Hid (decB b = none) := Lib.hid (by unfold decB; rw [Hrun.out, if_neg (fun h => by cases h.2.1)])
            go_wp2_with fail
            refine Calls.mono Henc.out ?_
            rintro e w1 (⟨hf, rfl, e1⟩ | ⟨hf, g, em, ed, rfl, ho, e1⟩)
            all_goals
              have Hf := Lib.hid hf
              have k1 := e1.cell r1
              obtain ⟨q0, q1, q2, q3⟩ := hpb.ext e1
              obtain ⟨z0, z1, z2, z3⟩ := hG.1.ext e1
              have xe := hxt.trans e1
              clear hf r0 r1 r2 r3 p0 p1 p2 p3
              go_wp2_with fail
              exact bodyPost_ret (v := .tuple #[pAgg [] none 0 0, .int .i64 1]) (by unfold pAgg; simp [results, Try.results22, go_sem, q0, q1]; rfl) rfl (.inl ⟨Hd.out, rfl, (xe.setCell (Nat.le_refl _) _).setCell (Nat.le_refl _) _⟩)
        iterate 2
          · go_wp2_with fail
            refine Calls.mono Henc.out ?_
            rintro e w1 (⟨hf, rfl, e1⟩ | ⟨hf, g, em, ed, rfl, ho, e1⟩)
            · have Hd : RowKit.Hid (decB b = none) := Lib.hid (by unfold decB; rw [Hrun.out, if_neg (fun h => by rw [hf] at h; cases h.2.2.1)])
              have k1 := e1.cell r1
              obtain ⟨q0, q1, q2, q3⟩ := hpb.ext e1
              obtain ⟨z0, z1, z2, z3⟩ := hG.1.ext e1
              have xe := hxt.trans e1
              clear hf r0 r1 r2 r3 p0 p1 p2 p3
              go_wp2_with fail
              exact bodyPost_ret (v := .tuple #[pAgg [] none 0 0, .int .i64 1]) (by unfold pAgg; simp [results, Try.results22, go_sem, q0, q1]; rfl) rfl (.inl ⟨Hd.out, rfl, (xe.setCell (Nat.le_refl _) _).setCell (Nat.le_refl _) _⟩)
            · have hbq := Lib.hid (fun r hq => beq_is w1 (some ⟨g, 0, none⟩) em ed (encB t ops) A b.length c b (Rb.of ho.rd rfl) ((hr.ext hxt).ext e1) (r := r) hq)
              have k1 := e1.cell r1
              obtain ⟨q0, q1, q2, q3⟩ := hpb.ext e1
              obtain ⟨z0, z1, z2, z3⟩ := hG.1.ext e1
              have xe := hxt.trans e1
              have Hf := Lib.hid hf
              clear hf r0 r1 r2 r3 p0 p1 p2 p3
              by_cases hq : encB t ops = b
              · have Hd : RowKit.Hid (decB b = some (t, ops)) := Lib.hid (dec_iff.2 ⟨Hf.out, hq⟩)
                have Hq := Lib.hid (decide_eq_true hq)
                clear hq
                go_wp2_with fail
                refine (hbq.out _ Hq.out).mono ?_
                rintro e w2 ⟨rfl, rfl⟩
                go_wp2_with fail
                have ho2 : Own ((w1.setCell ⟨w.heap.size, 0, none⟩ (.string (bs t))).setCell ⟨w.heap.size, 1, none⟩ (.slice B m d)) w.heap.size 30 4 B m d (opcs ops) := by
                  have hne : blk B ≠ some w.heap.size := fun e => by have := hG.2.1.blk_ge _ e; omega
                  exact (((hG.2.1.ext e1).mono (by omega)).kept (grownSet (g := w.heap.size) w1 ⟨w.heap.size, 0, none⟩ rfl _) (.inr hne)).kept (grownSet (g := w.heap.size) _ ⟨w.heap.size, 1, none⟩ rfl _) (.inr hne)
                exact bodyPost_ret (v := .tuple #[pAgg t B m d, .int .i64 0]) (by unfold pAgg; simp [results, Try.results22, go_sem, q0, q1]) rfl (.inr ⟨t, ops, Hd.out, B, m, d, rfl, ho2, (xe.setCell (Nat.le_refl _) _).setCell (Nat.le_refl _) _⟩)
              · have Hd : RowKit.Hid (decB b = none) := Lib.hid (by unfold decB; rw [Hrun.out, if_neg (fun h => hq h.2.2.2)])
                have Hq := Lib.hid (decide_eq_false hq)
                clear hq
                go_wp2_with fail
                refine (hbq.out _ Hq.out).mono ?_
                rintro e w2 ⟨rfl, rfl⟩
                go_wp2_with fail
                exact bodyPost_ret (v := .tuple #[pAgg [] none 0 0, .int .i64 1]) (by unfold pAgg; simp [results, Try.results22, go_sem, q0, q1]; rfl) rfl (.inl ⟨Hd.out, rfl, (xe.setCell (Nat.le_refl _) _).setCell (Nat.le_refl _) _⟩)
  · have Hd : RowKit.Hid (decB b = none) := Lib.hid (by unfold decB; rw [Htl.out, if_neg (fun h => he h.1)])
    have be : (er != 0) = true := by rw [bne_iff_ne]; exact he
    clear he
    go_enter Try.func22, Try.ntmps22
    go_wp2_with fail
    refine Calls.mono Htx.out ?_
    rintro e w' ⟨rfl, rfl⟩
    go_wp2_with fail
    exact bodyPost_ret (v := .tuple #[pAgg [] none 0 0, .int .i64 1]) (by unfold pAgg; simp [results, Try.results22, go_sem]; rfl) rfl (.inl ⟨Hd.out, rfl, by repeat (first | exact (Below.refl _ _).alloc (Nat.le_refl _) _ | refine Below.alloc ?_ (by simp) _ | refine Below.setCell ?_ (by simp) _)⟩)
end Go.Proofs.Ytehelhennbcboaa
