/- What an operation sets its first cell to, whatever its code; one operation of a frame, whatever its code. -/
import Derived.Test.YtihegdjdgklbgaaVmO
namespace Go.Proofs.Ytihegdjdgklbgaa
set_option maxRecDepth 100000
open Go.RowKit
set_option linter.unusedVariables false

theorem Rd.chg {w0 w V : World} {size : Nat} {A : Option Addr} {n c : Nat} {xs : List Value} {R b : Nat} (h : Rd w0 size A n c xs) (e0 : Ext w0 w) (hR : w0.heap.size ≤ R) (hb : 0 < n → ∀ a, A = some a → a.block ≠ b) (cV : Chg w V R b) : Rd V size A n c xs := by
  refine ⟨h.1, h.2.1, h.2.2.1, fun hn => ?_⟩
  obtain ⟨bl, o, e, hc⟩ := h.2.2.2 hn
  have hlt := h.lt hn _ e
  have hne := hb (Nat.pos_of_ne_zero fun h0 => by subst h0; simp at hn) _ e
  dsimp only at hlt hne
  refine ⟨bl, o, e, fun j u hu => ?_⟩
  rw [World.cell?_of_block (a := ⟨bl, o + j, none⟩) (cV.block bl (Nat.lt_of_lt_of_le hlt e0.size) (by omega) hne)]
  exact e0.cell (hc j u hu)

theorem runeN_at (t : List UInt8) (n : Int) : atL t n = runeN t n := rfl
theorem value_any (w : World) (R b T : Nat) {G S : FuncId} (t : List UInt8) (A : Option Addr) (n c : Nat) (frame : Int) (Pa : Option Addr) (pn pc k : Nat) (press : List UInt8) (g : List Int)
    (hM : MemI T b G S) (hr : Rn w R t A n c (.iface T (.pointer (some ⟨b, 0, none⟩))) frame Pa pn pc k) (hg : Gm w b g) (hp : Rb w Pa pn pc press) (hok : okG g) (ht : t.length ≤ 1099511627776) (xc x y z : Int) {m : Nat} (hm : mayL (xc, x, y, z) m = true) (h0 : xc ≠ 0 ∧ xc ≠ 9 ∧ xc ≠ 10 ∧ xc ≠ 13) :
    Calls Try.prog 56 #[.pointer (some ⟨R, 0, none⟩), opAgg (xc, x, y, z)] w fun e w' => e = .returned (.int .i32 (valN t press frame g (xc, x, y, z))) ∧ Ext w w' := by
  have hw := may_ways hm
  dsimp only at hw
  rcases hw with h | ⟨h, _⟩ | ⟨h, _⟩ | ⟨h, _⟩ | ⟨h, _⟩ | ⟨h, _, _, h3, h4⟩ | ⟨h, _, _, h3, h4, h5, h6⟩
  · exact absurd h h0.1
  · exact absurd h h0.2.1
  · exact absurd h h0.2.2.1
  · subst h; exact value_set w R b T t A n c frame Pa pn pc k press g hM hr hg x y z
  · subst h; exact value_time w R b T t A n c frame Pa pn pc k press g hM hr hg x y z
  · have hc : xc = 2 ∨ xc = 11 ∨ xc = 12 ∨ xc = 14 := by omega
    rcases hc with h | h | h | h
    · subst h; exact value_mov w R b T t A n c frame Pa pn pc k press g hM hr hg hok x y z h3 h4
    · subst h; exact value_in w R b T t A n c frame Pa pn pc k press g hM hr hg hok x y z h3 h4 hp
    · subst h; exact value_load w R b T t A n c frame Pa pn pc k press g hM hr hg hok x y z h3 h4
    · subst h; exact value_rune w R b T t A n c frame Pa pn pc k press g hM hr hg hok x y z h3 h4 ht
  · exact value_sum w R b T t A n c frame Pa pn pc k press g hM hr hg xc x y z h3 h4 h5 h6 h.1 h.2

theorem one_any (w : World) (R b T : Nat) {G S : FuncId} (t : List UInt8) (A : Option Addr) (n c : Nat) (l : List OpT) (frame : Int) (Pa : Option Addr) (pn pc k : Nat) (press : List UInt8) (g : List Int)
    (hM : MemI T b G S) (hr : Rn w R t A n c (.iface T (.pointer (some ⟨b, 0, none⟩))) frame Pa pn pc k) (hl : Ro w A n c l) (hpk : ∀ V, Chg w V R b → Rb V Pa pn pc press) (hg : Gm w b g) (hok : okG g) (hne : R ≠ b) (hk : k < l.length) (h64 : l.length ≤ 64) (ht : t.length ≤ 1099511627776) (hmay : mayL l[k] l.length = true) (h0 : l[k].1 ≠ 0)
    {k' : Nat} (hk' : (oneN t press frame g k l[k]).2 = k') {g' : List Int} (hg' : (oneN t press frame g k l[k]).1 = g') :
    Calls Try.prog 50 #[.pointer (some ⟨R, 0, none⟩)] w (OneOf w R b t A n c (.iface T (.pointer (some ⟨b, 0, none⟩))) frame Pa pn pc k' g' true) := by
  obtain ⟨xc, x, y, z, ho⟩ : ∃ xc x y z, l[k] = (xc, x, y, z) := ⟨_, _, _, _, rfl⟩
  rw [ho] at hmay h0 hk' hg'
  have hp := hpk w (Chg.refl _ _ _)
  have hw := may_ways hmay
  dsimp only at hw h0
  by_cases h9 : xc = 9
  · subst h9
    obtain ⟨X, rfl⟩ := Int.eq_ofNat_of_zero_le (show 0 ≤ x by omega)
    obtain rfl : X = k' := by rw [← hk']; simp [oneN]
    obtain rfl : g = g' := by rw [← hg']; simp [oneN]
    exact one_jump w R b T t A n c l frame Pa pn pc k press g hM hr hl hp hg hok hne hk h64 ht ho rfl rfl
  by_cases h10 : xc = 10
  · subst h10
    obtain ⟨Y, rfl⟩ := Int.eq_ofNat_of_zero_le (show 0 ≤ y by omega)
    obtain rfl : g = g' := by rw [← hg']; simp [oneN]
    by_cases hz : getN g x = 0
    · obtain rfl : Y = k' := by rw [← hk']; simp [oneN, hz]
      exact one_zero w R b T t A n c l frame Pa pn pc k press g hM hr hl hp hg hok hne hk h64 ht ho rfl (by omega) (by omega) rfl hz
    · obtain rfl : k + 1 = k' := by rw [← hk']; simp [oneN, hz]
      exact one_zerono w R b T t A n c l frame Pa pn pc k press g hM hr hl hp hg hok hne hk h64 ht ho rfl (by omega) (by omega) hz
  by_cases h13 : xc = 13
  · subst h13
    obtain rfl : k + 1 = k' := by rw [← hk']; simp [oneN]
    obtain rfl : setN g (remN (getN g x) : Nat) (getN g y) = g' := by rw [← hg']; simp [oneN]
    exact one_keep w R b T t A n c l frame Pa pn pc k press g hM hr hl hp hg hok hne hk h64 ht ho rfl (by omega) (by omega) (by omega) (by omega)
  · obtain rfl : k + 1 = k' := by rw [← hk']; simp [oneN, h9, h10, h13]
    obtain rfl : setN g x (valN t press frame g (xc, x, y, z)) = g' := by rw [← hg']; simp [oneN, h9, h10, h13]
    exact one_set w R b T t A n c l frame Pa pn pc k press g hM hr hl hp hg hok hne hk h64 ht ho ⟨h0, h9, h10, h13⟩ (by omega) (by omega) (fun W hr' hg' hp' => value_any W R b T t A n c frame Pa pn pc (k + 1) press g hM hr' hg' hp' hok ht xc x y z hmay ⟨h0, h9, h10, h13⟩) hpk
end Go.Proofs.Ytihegdjdgklbgaa
