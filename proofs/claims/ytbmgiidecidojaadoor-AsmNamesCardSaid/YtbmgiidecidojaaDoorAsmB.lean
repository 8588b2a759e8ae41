/- Law 6's begun; the contracts of Parse where the answer is known. -/
import Derived.Test.YtbmgiidecidojaaDoorAsmS
import Derived.Test.YtbmgiidecidojaaDoorAsmX
namespace Go.Proofs.YtbmgiidecidojaaDoor
open Go.RowKit

/-- A program was read. -/
def ReadOf (w : World) (t : List UInt8) (l : List OpT) (e : Ending) (w' : World) : Prop := ∃ B m d, e = .returned (.tuple #[.agg #[.string (bs t), .slice B m d], .int .i64 0, .int .i64 0]) ∧ Ro w' B m d l ∧ Ext w w'
/-- None was. -/
def LostOf (w : World) (n : Nat) (e : Ending) (w' : World) : Prop := e = .returned (.tuple #[.agg #[.string (bs []), .slice none 0 0], .int .i64 (n : Nat), .int .i64 1]) ∧ Ext w w'
theorem ParseOf.yes {w : World} {t : List UInt8} {l : List OpT} {R} (hR : R = Sum.inr (t, l)) {e : Ending} {w' : World} (h : ParseOf w R e w') : ReadOf w t l e w' := by
  subst hR
  rcases h with ⟨n, h, -⟩ | ⟨t', l', h, B, m, d, he, ho, hx⟩
  · cases h
  · cases h; exact ⟨B, m, d, he, ho.rd, hx⟩
theorem ParseOf.no {w : World} {n : Nat} {R} (hR : R = Sum.inl n) {e : Ending} {w' : World} (h : ParseOf w R e w') : LostOf w n e w' := by
  subst hR
  rcases h with ⟨n', h, he, hx⟩ | ⟨t', l', h, -⟩
  · cases h; exact ⟨he, hx⟩
  · cases h
theorem aparse_yes (w : World) (s : List UInt8) (hs : s.length ≤ 1099511627776) {t : List UInt8} {l : List OpT} (h : parseL s = .inr (t, l)) : Calls Tryd.prog 11 #[.string (bs s)] w (ReadOf w t l) := (aparse_any w s hs).mono fun _ _ hp => hp.yes h
theorem aparse_no (w : World) (s : List UInt8) (hs : s.length ≤ 1099511627776) {n : Nat} (h : parseL s = .inl n) : Calls Tryd.prog 11 #[.string (bs s)] w (LostOf w n) := (aparse_any w s hs).mono fun _ _ hp => hp.no h
theorem rparse_yes (w : World) (s : List UInt8) (hs : s.length ≤ 1099511627776) {t : List UInt8} {l : List OpT} (h : parseL s = .inr (t, l)) : Calls Tryd.prog 12 #[.string (bs s)] w (ReadOf w t l) := (rparse_any w s hs).mono fun _ _ hp => hp.yes h
theorem rparse_no (w : World) (s : List UInt8) (hs : s.length ≤ 1099511627776) {n : Nat} (h : parseL s = .inl n) : Calls Tryd.prog 12 #[.string (bs s)] w (LostOf w n) := (rparse_any w s hs).mono fun _ _ hp => hp.no h

def beg1 : List UInt8 := [32, 116, 105, 116, 108, 101, 32, 32, 97, 32, 98, 32, 35, 32, 99, 10, 10, 115, 101, 116, 32, 51, 32, 45, 53, 10, 104, 97, 108, 116]
def beg2 : List UInt8 := [116, 105, 116, 108, 101, 32, 116, 10, 115, 101, 116, 32, 51]
theorem parse_beg1 : parseL beg1 = .inr ([97, 32, 98], [(1, 3, -5, 0), (0, 0, 0, 0)]) := by decide +kernel
theorem parse_beg2 : parseL beg2 = .inl 2 := by decide +kernel
theorem print_beg : printL [97, 32, 98] [(1, 3, -5, 0), (0, 0, 0, 0)] = [116, 105, 116, 108, 101, 32, 97, 32, 98, 10, 115, 101, 116, 32, 51, 32, 45, 53, 10, 104, 97, 108, 116, 10] := by decide +kernel
set_option maxRecDepth 100000 in
set_option maxHeartbeats 4000000 in
theorem begun6_any (w : World) (hp : Pow w) : Calls Tryd.prog 9 #[] w (Yes w) := by
  go_enter Tryd.func9, Tryd.ntmps9
  go_wp2_with fail
  refine (aparse_yes w beg1 (by decide) parse_beg1).mono ?_
  rintro e w1 ⟨B, m, d, rfl, hro, e1⟩
  go_upto_region 2 with fail
  generalize hV1 : World.alloc w1 _ = V1
  have eV1 : Ext w1 V1 := by subst hV1; exact Ext.alloc _ _
  have P1 : PBox V1 w1.heap.size [97, 32, 98] B m d := by subst hV1; exact PBox.new _ _ _ _ _ _ rfl
  have R1 := hro.ext eV1
  have X1 := e1.trans eV1
  clear hV1 hro e1 eV1
  generalize w1.heap.size = g1 at *
  go_wp2_with fail
  refine (aparse_no V1 beg2 (by decide) parse_beg2).mono ?_
  rintro e w2 ⟨rfl, e2⟩
  have P2 := P1.ext e2
  have R2 := R1.ext e2
  have X2 := X1.trans e2
  clear P1 R1 X1 e2
  go_upto_region 3 with fail
  generalize hV2 : World.alloc w2 _ = V2
  have eV2 : Ext w2 V2 := by subst hV2; exact Ext.alloc _ _
  have P3 := P2.ext eV2
  have R3 := R2.ext eV2
  have X3 := X2.trans eV2
  clear hV2 P2 R2 X2 eV2
  obtain ⟨p0, p1, -⟩ := id P3
  have hm : m = 2 := R3.len
  subst hm
  obtain ⟨b, o, rfl, k0, k1, k2, k3⟩ := R3.at_ (k := 0) (by decide)
  simp only [List.getElem_cons_zero, Nat.zero_mul, Nat.add_zero] at k0 k1 k2 k3
  go_wp2_with fail
  have hpr := aprint_any V2 (pow_ext hp X3) [97, 32, 98] _ 2 d [(1, 3, -5, 0), (0, 0, 0, 0)] (by decide) R3
  rw [print_beg] at hpr
  refine hpr.mono ?_
  rintro e w3 ⟨rfl, e3⟩
  go_wp2_with fail
  go_ret
  exact ⟨by first | rfl | simp, X3.trans e3⟩
end Go.Proofs.YtbmgiidecidojaaDoor
