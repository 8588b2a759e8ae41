/- The walk of the law AsmText. -/
import Derived.Test.YtbmgiidecidojaaDoorAsmB
import Derived.Test.YtbmgiidecidojaaDoorCodQ2
namespace Go.Proofs.YtbmgiidecidojaaDoor
open Go.RowKit

theorem eqP_same (t : List UInt8) (l : List OpT) : eqP t t l l = true := by simp [eqP]
set_option maxRecDepth 100000 in
set_option maxHeartbeats 4000000 in
theorem text_walk (w : World) (hp : Pow w) (l0 : List UInt8) (hl0 : l0.length ≤ maxLen) : Calls Tryd.prog 3 #[.string (bs l0)] w (Yes w) := by
  have hcut := fun W => cut_any l0 300 W hl0
  have hl : (l0.take 300).length ≤ 1099511627776 := by simp; omega
  generalize l0.take 300 = l at *
  go_enter Tryd.func3, Tryd.ntmps3
  go_wp2_with fail
  refine (begun6_any w hp).mono ?_
  rintro e w1 ⟨rfl, e1⟩
  go_wp2_with fail
  refine (hcut _).mono ?_
  rintro e w2 ⟨rfl, rfl⟩
  clear hcut
  rcases hR : parseL l with nn | ⟨t, ops⟩
  · have ha := fun W => aparse_no W l hl hR
    have hb := fun W => rparse_no W l hl hR
    clear hR
    go_wp2_with fail
    refine (ha _).mono ?_
    rintro e w2 ⟨rfl, e2⟩
    have x2 := e1.trans e2
    clear e1 e2 ha
    go_upto_region 6 with fail
    generalize hV1 : World.alloc w2 _ = V1
    have P1 : PBox V1 w2.heap.size [] none 0 0 := by subst hV1; exact PBox.new _ _ _ _ _ _ rfl
    have x3 : Ext w V1 := by subst hV1; exact x2.trans (Ext.alloc _ _)
    clear hV1 x2
    generalize w2.heap.size = g1 at *
    go_wp2_with fail
    refine (hb _).mono ?_
    rintro e w3 ⟨rfl, e3⟩
    have P1 := P1.ext e3
    have x3 := x3.trans e3
    clear e3 hb
    go_upto_region 7 with fail
    generalize hV2 : World.alloc w3 _ = V2
    have eV2 : Ext w3 V2 := by subst hV2; exact Ext.alloc _ _
    have P2 : PBox V2 w3.heap.size [] none 0 0 := by subst hV2; exact PBox.new _ _ _ _ _ _ rfl
    have P1 := P1.ext eV2
    have x3 := x3.trans eV2
    clear hV2 eV2
    generalize w3.heap.size = g2 at *
    obtain ⟨p0, p1, -⟩ := id P1
    obtain ⟨q0, q1, -⟩ := id P2
    go_wp2_with fail
    refine (req_is V2 [] none 0 0 [] [] none 0 0 [] (Ro.nil_ _) (Ro.nil_ _) (eqP_same _ _)).mono ?_
    rintro e w4 ⟨rfl, e4⟩
    go_wp2_with fail
    go_ret
    exact ⟨rfl, x3.trans e4⟩
  · have ha := fun W => aparse_yes W l hl hR
    have hb := fun W => rparse_yes W l hl hR
    clear hR
    go_wp2_with fail
    refine (ha _).mono ?_
    rintro e w2 ⟨B, m, d, rfl, hr, e2⟩
    have x2 := e1.trans e2
    clear e1 e2 ha
    go_upto_region 6 with fail
    generalize hV1 : World.alloc w2 _ = V1
    have eV1 : Ext w2 V1 := by subst hV1; exact Ext.alloc _ _
    have P1 : PBox V1 w2.heap.size t B m d := by subst hV1; exact PBox.new _ _ _ _ _ _ rfl
    have x3 : Ext w V1 := x2.trans eV1
    have hr := hr.ext eV1
    clear hV1 x2 eV1
    generalize w2.heap.size = g1 at *
    go_wp2_with fail
    refine (hb _).mono ?_
    rintro e w3 ⟨B', m', d', rfl, hr', e3⟩
    have P1 := P1.ext e3
    have x3 := x3.trans e3
    have hr := hr.ext e3
    clear e3 hb
    go_upto_region 7 with fail
    generalize hV2 : World.alloc w3 _ = V2
    have eV2 : Ext w3 V2 := by subst hV2; exact Ext.alloc _ _
    have P2 : PBox V2 w3.heap.size t B' m' d' := by subst hV2; exact PBox.new _ _ _ _ _ _ rfl
    have P1 := P1.ext eV2
    have x3 := x3.trans eV2
    have hr := hr.ext eV2
    have hr' := hr'.ext eV2
    clear hV2 eV2
    generalize w3.heap.size = g2 at *
    obtain ⟨p0, p1, -⟩ := id P1
    obtain ⟨q0, q1, -⟩ := id P2
    go_wp2_with fail
    refine (req_is V2 t B m d ops t B' m' d' ops hr hr' (eqP_same _ _)).mono ?_
    rintro e w4 ⟨rfl, e4⟩
    go_wp2_with fail
    go_ret
    exact ⟨rfl, x3.trans e4⟩
end Go.Proofs.YtbmgiidecidojaaDoor
