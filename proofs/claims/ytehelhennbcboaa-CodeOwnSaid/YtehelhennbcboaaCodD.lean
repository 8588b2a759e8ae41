/- The walks of code's reader and of code.Decode. -/
import Derived.Test.YtehelhennbcboaaCodP
import Derived.Test.YtehelhennbcboaaBox
import Derived.Test.YtehelhennbcboaaNumT
namespace Go.Proofs.Ytehelhennbcboaa
open Go.RowKit

/-- A reader's box. -/
def RBox (w : World) (g : Nat) (A : Option Addr) (n c : Nat) (bad : Bool) : Prop :=
  w.cell? ⟨g, 0, none⟩ = some (.slice A n c) ∧ w.cell? ⟨g, 1, none⟩ = some (.bool bad) ∧ w.frozen? ⟨g, 0, none⟩ = false ∧ w.frozen? ⟨g, 1, none⟩ = false
section
variable {w w' : World} {g : Nat} {A : Option Addr} {n c : Nat} {bad : Bool}
theorem RBox.lt (h : RBox w g A n c bad) : g < w.heap.size := World.block_lt_of_cell? w _ h.1
theorem RBox.new (w : World) (T : TypeId) (A : Option Addr) (n c : Nat) (bad : Bool) {g : Nat} (hg : g = w.heap.size) : RBox (w.alloc (.cells #[.slice A n c, .bool bad] T)) g A n c bad := by
  subst hg
  refine ⟨?_, ?_, ?_, ?_⟩ <;> go_simp
theorem RBox.ext (h : RBox w g A n c bad) (e : Ext w w') : RBox w' g A n c bad :=
  ⟨e.cell h.1, e.cell h.2.1, by rw [e.frozen h.lt]; exact h.2.2.1, by rw [e.frozen h.lt]; exact h.2.2.2⟩
theorem RBox.grown (h : RBox w g A n c bad) {row : Option Nat} (hg : w.grownBy w' row) (hne : row ≠ some g) : RBox w' g A n c bad := by
  have hb := hg.block g h.lt (fun e => hne e.symm)
  have hf : ∀ o, w'.frozen? ⟨g, o, none⟩ = w.frozen? ⟨g, o, none⟩ := fun o => by simp [World.frozen?, hb]
  exact ⟨(World.cell?_of_block (a := ⟨g, 0, none⟩) hb).trans h.1, (World.cell?_of_block (a := ⟨g, 1, none⟩) hb).trans h.2.1, (hf 0).trans h.2.2.1, (hf 1).trans h.2.2.2⟩
theorem RBox.setB (h : RBox w g A n c bad) (b : Bool) : RBox (w.setCell ⟨g, 1, none⟩ (.bool b)) g A n c b := by
  obtain ⟨h0, h1, h2, h3⟩ := h
  refine ⟨?_, ?_, ?_, ?_⟩ <;> go_simp
theorem RBox.setS (h : RBox w g A n c bad) (A' : Option Addr) (n' c' : Nat) : RBox (w.setCell ⟨g, 0, none⟩ (.slice A' n' c')) g A' n' c' bad := by
  obtain ⟨h0, h1, h2, h3⟩ := h
  refine ⟨?_, ?_, ?_, ?_⟩ <;> go_simp
end
/-- A reader: its box, and the bytes that are left, which lie below bnd. -/
def Rdr (w : World) (bnd g : Nat) (s : List UInt8 × Bool) : Prop := ∃ A n c, RBox w g A n c s.2 ∧ Rb w A n c s.1 ∧ (∀ a, A = some a → a.block < bnd) ∧ bnd ≤ g
theorem Rdr.lt {w : World} {bnd g : Nat} {s : List UInt8 × Bool} (h : Rdr w bnd g s) : g < w.heap.size := by obtain ⟨_, _, _, h, _⟩ := h; exact h.lt
theorem Rdr.ext {w w' : World} {bnd g : Nat} {s : List UInt8 × Bool} (h : Rdr w bnd g s) (e : Ext w w') : Rdr w' bnd g s := by
  obtain ⟨A, n, c, h1, h2, h3⟩ := h
  exact ⟨A, n, c, h1.ext e, h2.ext e, h3⟩
theorem Rdr.grown {w w' : World} {bnd g : Nat} {s : List UInt8 × Bool} (h : Rdr w bnd g s) {row : Option Nat} (hg : w.grownBy w' row) (hr : ∀ k, row = some k → bnd ≤ k ∧ k ≠ g) : Rdr w' bnd g s := by
  obtain ⟨A, n, c, h1, h2, h3, h4⟩ := h
  exact ⟨A, n, c, h1.grown hg (fun e => (hr g e).2 rfl), h2.grown hg (fun a ha e => by have := h3 a ha; have := (hr a.block e).1; omega), h3, h4⟩
theorem cut_block {A : Option Addr} {k c : Nat} {a : Addr} (h : (if c = k then A else Option.map (fun x => x.add k) A) = some a) : ∃ b, A = some b ∧ b.block = a.block := by
  split at h
  · exact ⟨a, h, rfl⟩
  · obtain ⟨b, hb, rfl⟩ := Option.map_eq_some_iff.1 h
    refine ⟨b, hb, ?_⟩
    unfold Addr.add
    split <;> rfl

set_option maxHeartbeats 2000000 in
theorem rnum_any (w : World) (bnd g : Nat) (s : List UInt8 × Bool) (h : Rdr w bnd g s) :
    Calls Try.prog 37 #[.pointer (some ⟨g, 0, none⟩)] w fun e w' => e = .returned (.int .i64 (rdN s).1) ∧ Rdr w' bnd g (rdN s).2 ∧ w.grownBy w' (some g) := by
  obtain ⟨l, bad⟩ := s
  obtain ⟨A, n, c, hb, hr, hA, hbg⟩ := h
  dsimp only at hb hr
  have hget := get_any A n c l w hr
  have hok := get_ok l
  have hbd := @get_bd l
  have hn := hr.len
  have hmx := hr.max
  unfold maxLen at hmx
  subst hn
  obtain ⟨x, k, er, hgl⟩ : ∃ x k er, getL l = (x, k, er) := ⟨_, _, _, rfl⟩
  have hrd : rdN (l, bad) = (x, (if bad || er != 0 then l else l.drop k), bad || er != 0) := by unfold rdN; rw [hgl]
  rw [hgl] at hget hbd hok
  dsimp only at hget hbd hok
  unfold okI at hok
  have Hget := Lib.hid hget
  clear hget hgl
  obtain ⟨p0, p1, p2, p3⟩ := id hb
  cases bad
  · by_cases he : er = 0
    · subst he
      obtain ⟨hk0, hk1⟩ := hbd rfl
      obtain ⟨A', hA', hr'⟩ := hr.cut hk1
      have hblk : ∀ a, A' = some a → a.block < bnd := fun a ha => by
        rw [← hA'] at ha
        obtain ⟨b, hb1, hb2⟩ := cut_block ha
        rw [← hb2]; exact hA b hb1
      have Hblk := Lib.hid hblk
      have Hrd : RowKit.Hid (rdN (l, false) = (x, l.drop k, false)) := Lib.hid hrd
      clear hbd hblk hA hrd
      go_enter Try.func37, Try.ntmps37
      go_wp2_with fail
      refine Hget.out.mono ?_
      rintro e w' ⟨rfl, rfl⟩
      go_wp2_with fail
      go_ret
      rw [Hrd.out]
      refine ⟨rfl, ⟨A', l.length - k, c - k, (hb.setB false).setS A' (l.length - k) (c - k), ?_, Hblk.out, hbg⟩, ?_⟩
      · have hgw := grown_trans (grownSet (g := g) w ⟨g, 1, none⟩ rfl (.bool false)) (grownSet (g := g) (w.setCell ⟨g, 1, none⟩ (.bool false)) ⟨g, 0, none⟩ rfl (.slice A' (l.length - k) (c - k)))
        exact hr'.grown hgw (fun a ha e => by have := Hblk.out a ha; have := Option.some.inj e; omega)
      · exact grown_trans (grownSet (g := g) w ⟨g, 1, none⟩ rfl (.bool false)) (grownSet (g := g) _ ⟨g, 0, none⟩ rfl _)
    · have b1 : (er != 0) = true := by rw [bne_iff_ne]; exact he
      have HA := Lib.hid hA
      have Hrd : RowKit.Hid (rdN (l, false) = (x, l, true)) := Lib.hid (by rw [hrd, b1]; rfl)
      clear hbd he hA hrd
      go_enter Try.func37, Try.ntmps37
      go_wp2_with fail
      refine Hget.out.mono ?_
      rintro e w' ⟨rfl, rfl⟩
      go_wp2_with fail
      go_ret
      rw [Hrd.out]
      exact ⟨rfl, ⟨A, l.length, c, hb.setB true, hr.grown (grownSet (g := g) w ⟨g, 1, none⟩ rfl _) (fun a ha e => by have := HA.out a ha; have := Option.some.inj e; omega), HA.out, hbg⟩, grownSet (g := g) w ⟨g, 1, none⟩ rfl _⟩
  · have HA := Lib.hid hA
    have Hrd : RowKit.Hid (rdN (l, true) = (x, l, true)) := Lib.hid hrd
    clear hbd hA hrd
    go_enter Try.func37, Try.ntmps37
    go_wp2_with fail
    refine Hget.out.mono ?_
    rintro e w' ⟨rfl, rfl⟩
    go_wp2_with fail
    go_ret
    rw [Hrd.out]
    exact ⟨rfl, ⟨A, l.length, c, hb.setB true, hr.grown (grownSet (g := g) w ⟨g, 1, none⟩ rfl _) (fun a ha e => by have := HA.out a ha; have := Option.some.inj e; omega), HA.out, hbg⟩, grownSet (g := g) w ⟨g, 1, none⟩ rfl _⟩
end Go.Proofs.Ytehelhennbcboaa
