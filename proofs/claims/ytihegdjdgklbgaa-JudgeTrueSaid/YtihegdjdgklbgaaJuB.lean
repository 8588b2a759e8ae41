/- The walk of law28.begun: two that agree. -/
import Derived.Test.YtihegdjdgklbgaaJuC
namespace Go.Proofs.Ytihegdjdgklbgaa
set_option maxRecDepth 100000
open Go.RowKit
set_option linter.unusedVariables false

theorem rp_one {V : World} {b B n : Nat} {x : List UInt8} (h1 : Rb V (some ⟨b, 0, none⟩) n n x) (h : Rd V 1 (some ⟨B, 0, none⟩) 1 1 [.slice (some ⟨b, 0, none⟩) n n]) : Rp V (some ⟨B, 0, none⟩) 1 1 [x] := by
  refine ⟨[(some ⟨b, 0, none⟩, n, n)], h, rfl, fun i hd p hi hp => ?_⟩
  match i, hi, hp with
  | 0, hi, hp => cases Option.some.inj hi; cases Option.some.inj hp; exact h1
  | i + 1, hi, _ => simp at hi
theorem rp_pair {V : World} {b1 b2 B n m : Nat} {x y : List UInt8} (h1 : Rb V (some ⟨b1, 0, none⟩) n n x) (h2 : Rb V (some ⟨b2, 0, none⟩) m m y) (h : Rd V 1 (some ⟨B, 0, none⟩) 2 2 [.slice (some ⟨b1, 0, none⟩) n n, .slice (some ⟨b2, 0, none⟩) m m]) : Rp V (some ⟨B, 0, none⟩) 2 2 [x, y] := by
  refine ⟨[(some ⟨b1, 0, none⟩, n, n), (some ⟨b2, 0, none⟩, m, m)], h, rfl, fun i hd p hi hp => ?_⟩
  match i, hi, hp with
  | 0, hi, hp => cases Option.some.inj hi; cases Option.some.inj hp; exact h1
  | 1, hi, hp => cases Option.some.inj hi; cases Option.some.inj hp; exact h2
  | i + 2, hi, _ => simp at hi
/-- Two that were told, laid into a slice. -/
theorem rt_two {V : World} {B : Nat} {h1 h2 : HdT} {x y : ToldT} (k1 : Told1 V h1 x) (k2 : Told1 V h2 y) (h : Rd V 3 (some ⟨B, 0, none⟩) 2 2 (tcs [h1, h2])) : Rt V (some ⟨B, 0, none⟩) 2 2 [x, y] := by
  refine ⟨[h1, h2], h, rfl, fun i hd p hi hp => ?_⟩
  match i, hi, hp with
  | 0, hi, hp => cases Option.some.inj hi; cases Option.some.inj hp; exact k1
  | 1, hi, hp => cases Option.some.inj hi; cases Option.some.inj hp; exact k2
  | i + 2, hi, _ => simp at hi
theorem rt_two_new {w : World} {T : TypeId} {h1 h2 : HdT} {x y : ToldT} (k1 : Told1 w h1 x) (k2 : Told1 w h2 y) : Rt (w.alloc (.cells (tcs [h1, h2]).toArray T)) (some ⟨w.heap.size, 0, none⟩) 2 2 [x, y] :=
  rt_two (k1.ext (Ext.alloc _ _)) (k2.ext (Ext.alloc _ _)) (Rd.made w T 3 (tcs [h1, h2]) 2 (tcs_len _) (by decide))
theorem front_two (x y : ToldT) : frontT [x, y] = min x.2.1 y.2.1 := by simp [frontT]
set_option maxRecDepth 100000 in
set_option maxHeartbeats 4000000 in
theorem begun28_any (w : World) : Calls Try.prog 20 #[] w (Yes w) := by
  go_enter Try.func20, Try.ntmps20
  go_wp2_with fail
  refine (prog22_any _).mono ?_
  rintro e w1 ⟨PA, rfl, hro, e1⟩
  have hg22 := foldN_ok [115, 117, 109] ops22 [[1, 2]] 0 zeroG_ok
  have hrt := fun W (Q : List (List UInt8)) (f : Int) (G : List UInt8) A1 n1 c1 B1 m1 d1 h0 h1 h2 h3 => right_any W [115, 117, 109] PA 12 12 ops22 (by decide) h0 A1 n1 c1 f B1 m1 d1 Q G h1 h2 h3
  have hfo := fun W A1 n1 c1 h1 h2 => rfold_any W [115, 117, 109] PA 12 12 ops22 0 A1 n1 c1 [[1, 2]] zeroG (by decide) h1 h2 zeroG_ok (by decide) (by decide) (by decide)
  have hr1 : rightT [115, 117, 109] ops22 ([[1, 2]], 1, gameL (foldN [115, 117, 109] ops22 0 zeroG [[1, 2]])) = true := by
    unfold rightT mayT
    simp
  have hr2 : rightT [115, 117, 109] ops22 ([], 1, []) = false := by decide
  generalize foldN [115, 117, 109] ops22 0 zeroG [[1, 2]] = G at *
  have ha1 : agN [([[1, 2]], (1 : Int), gameL G), ([[1, 2], [3, 4]], 1, gameL G)] = true := by
    rw [agN_two]
    unfold agreeT mayT
    simp
  have ha2 : agN [([[1, 2]], (1 : Int), gameL G), ([[1, 3]], 1, gameL G)] = false := by
    rw [agN_two]
    unfold agreeT mayT
    simp
  have Hrt := Lib.hid hrt
  have Hfo := Lib.hid hfo
  have Hr1 := Lib.hid hr1
  have Hr2 := Lib.hid hr2
  have Ha1 := Lib.hid ha1
  have Ha2 := Lib.hid ha2
  clear hrt hfo hr1 hr2 ha1 ha2
  have eP := (Ext.refl w1).trans (Ext.alloc w1 (.cells #[.string (bs [115, 117, 109]), .slice PA 12 12] 24))
  unfold pAgg
  go_wp2_with fail
  generalize h1 : World.alloc w1 _ = V1
  generalize h2 : World.alloc V1 _ = V2
  generalize h3 : World.alloc V2 _ = V3
  have x1 : Ext w1 V1 := by subst h1; exact Ext.alloc _ _
  have x2 : Ext V1 V2 := by subst h2; exact Ext.alloc _ _
  have x3 : Ext V2 V3 := by subst h3; exact Ext.alloc _ _
  have s1 : V1.heap.size = w1.heap.size + 1 := by subst h1; simp
  have s2 : V2.heap.size = w1.heap.size + 1 + 1 := by subst h2; simp [s1]
  have g0 : V1.cell? ⟨w1.heap.size, 0, none⟩ = some (.string (bs [115, 117, 109])) := by subst h1; go_simp
  have g1 : V1.cell? ⟨w1.heap.size, 1, none⟩ = some (.slice PA 12 12) := by subst h1; go_simp
  have r1 : Rb V2 (some ⟨w1.heap.size + 1, 0, none⟩) 2 2 [1, 2] := by subst h2; exact rb_new s1.symm rfl rfl (by decide)
  have r2 : Rp V3 (some ⟨w1.heap.size + 1 + 1, 0, none⟩) 1 1 [[1, 2]] := by
    refine rp_one (r1.ext x3) ?_
    subst h3
    have := Rd.made V2 43 1 [.slice (some ⟨w1.heap.size + 1, 0, none⟩) 2 2] 1 rfl (by decide)
    rw [s2] at this
    exact this
  have x13 := x2.trans x3
  have g0 := x13.cell g0
  have g1 := x13.cell g1
  have hro := hro.ext (x1.trans x13)
  have e3 := (e1.trans x1).trans x13
  clear h1 h2 h3 s1 s2 r1 x1 x2 x3 x13 e1 eP
  generalize w1.heap.size = b0 at *
  refine (Hfo.out V3 _ 1 1 hro r2).mono ?_
  rintro e w2 ⟨rfl, e2⟩
  have g0 := e2.cell g0
  have g1 := e2.cell g1
  have hro := hro.ext e2
  have e3 := e3.trans e2
  clear r2 e2 Hfo
  go_wp2_with fail
  refine (rbytes_any w2 G hg22).mono ?_
  rintro e w3 ⟨GB, gd, rfl, hgb, e2⟩
  have g0 := e2.cell g0
  have g1 := e2.cell g1
  have hro := hro.ext e2
  have e3 := e3.trans e2
  clear e2
  have hb0 : b0 < w3.heap.size := World.block_lt_of_cell? w3 _ g0
  go_wp2_with (
    generalize h1 : World.alloc w3 _ = V1
    generalize h2 : World.alloc V1 _ = V2
    generalize h3 : World.alloc V2 _ = V3
    generalize h4 : World.alloc V3 _ = V4
    generalize h5 : World.alloc V4 _ = V5
    generalize h6 : World.alloc V5 _ = V6
    generalize h7 : World.alloc V6 _ = V7
    generalize h8 : World.alloc V7 _ = V8
    generalize h9 : World.alloc V8 _ = V9
    generalize h10 : World.alloc V9 _ = V10
    have x1 : Ext w3 V1 := by subst h1; exact Ext.alloc _ _
    have s1 : V1.heap.size = w3.heap.size + 1 := by subst h1; simp
    have x2 : Ext V1 V2 := by subst h2; exact Ext.alloc _ _
    have s2 : V2.heap.size = w3.heap.size + 1 + 1 := by subst h2; simp [s1]
    have x3 : Ext V2 V3 := by subst h3; exact Ext.alloc _ _
    have s3 : V3.heap.size = w3.heap.size + 1 + 1 + 1 := by subst h3; simp [s2]
    have x4 : Ext V3 V4 := by subst h4; exact Ext.alloc _ _
    have s4 : V4.heap.size = w3.heap.size + 1 + 1 + 1 + 1 := by subst h4; simp [s3]
    have x5 : Ext V4 V5 := by subst h5; exact Ext.alloc _ _
    have s5 : V5.heap.size = w3.heap.size + 1 + 1 + 1 + 1 + 1 := by subst h5; simp [s4]
    have x6 : Ext V5 V6 := by subst h6; exact Ext.alloc _ _
    have s6 : V6.heap.size = w3.heap.size + 1 + 1 + 1 + 1 + 1 + 1 := by subst h6; simp [s5]
    have x7 : Ext V6 V7 := by subst h7; exact Ext.alloc _ _
    have s7 : V7.heap.size = w3.heap.size + 1 + 1 + 1 + 1 + 1 + 1 + 1 := by subst h7; simp [s6]
    have x8 : Ext V7 V8 := by subst h8; exact Ext.alloc _ _
    have s8 : V8.heap.size = w3.heap.size + 1 + 1 + 1 + 1 + 1 + 1 + 1 + 1 := by subst h8; simp [s7]
    have x9 : Ext V8 V9 := by subst h9; exact Ext.alloc _ _
    have s9 : V9.heap.size = w3.heap.size + 1 + 1 + 1 + 1 + 1 + 1 + 1 + 1 + 1 := by subst h9; simp [s8]
    have x10 : Ext V9 V10 := by subst h10; exact Ext.alloc _ _
    have s10 : V10.heap.size = w3.heap.size + 1 + 1 + 1 + 1 + 1 + 1 + 1 + 1 + 1 + 1 := by subst h10; simp [s9]
    have r1 : Rb V1 (some ⟨w3.heap.size, 0, none⟩) 2 2 [1, 2] := by subst h1; exact rb_new rfl rfl rfl (by decide)
    have r2 : Rd V2 1 (some ⟨w3.heap.size + 1, 0, none⟩) 1 1 [.slice (some ⟨w3.heap.size, 0, none⟩) 2 2] := by have q := Rd.made V1 43 1 [.slice (some ⟨w3.heap.size, 0, none⟩) 2 2] 1 rfl (by decide); rw [s1] at q; subst h2; exact q
    have ka0 : V3.cell? ⟨w3.heap.size + 1 + 1, 0, none⟩ = some (.slice (some ⟨w3.heap.size + 1, 0, none⟩) 1 1) := by subst h3; rw [← s2]; go_simp
    have ka1 : V3.cell? ⟨w3.heap.size + 1 + 1, 1, none⟩ = some (.int .i64 1) := by subst h3; rw [← s2]; go_simp
    have ka2 : V3.cell? ⟨w3.heap.size + 1 + 1, 2, none⟩ = some (.slice GB 128 gd) := by subst h3; rw [← s2]; go_simp
    have r4 : Rb V4 (some ⟨w3.heap.size + 1 + 1 + 1, 0, none⟩) 2 2 [1, 2] := by subst h4; exact rb_new s3.symm rfl rfl (by decide)
    have r5 : Rb V5 (some ⟨w3.heap.size + 1 + 1 + 1 + 1, 0, none⟩) 2 2 [3, 4] := by subst h5; exact rb_new s4.symm rfl rfl (by decide)
    have r6 : Rd V6 1 (some ⟨w3.heap.size + 1 + 1 + 1 + 1 + 1, 0, none⟩) 2 2 [.slice (some ⟨w3.heap.size + 1 + 1 + 1, 0, none⟩) 2 2, .slice (some ⟨w3.heap.size + 1 + 1 + 1 + 1, 0, none⟩) 2 2] := by have q := Rd.made V5 43 1 [.slice (some ⟨w3.heap.size + 1 + 1 + 1, 0, none⟩) 2 2, .slice (some ⟨w3.heap.size + 1 + 1 + 1 + 1, 0, none⟩) 2 2] 2 rfl (by decide); rw [s5] at q; subst h6; exact q
    have kb0 : V7.cell? ⟨w3.heap.size + 1 + 1 + 1 + 1 + 1 + 1, 0, none⟩ = some (.slice (some ⟨w3.heap.size + 1 + 1 + 1 + 1 + 1, 0, none⟩) 2 2) := by subst h7; rw [← s6]; go_simp
    have kb1 : V7.cell? ⟨w3.heap.size + 1 + 1 + 1 + 1 + 1 + 1, 1, none⟩ = some (.int .i64 1) := by subst h7; rw [← s6]; go_simp
    have kb2 : V7.cell? ⟨w3.heap.size + 1 + 1 + 1 + 1 + 1 + 1, 2, none⟩ = some (.slice GB 128 gd) := by subst h7; rw [← s6]; go_simp
    have r8 : Rb V8 (some ⟨w3.heap.size + 1 + 1 + 1 + 1 + 1 + 1 + 1, 0, none⟩) 2 2 [1, 3] := by subst h8; exact rb_new s7.symm rfl rfl (by decide)
    have r9 : Rd V9 1 (some ⟨w3.heap.size + 1 + 1 + 1 + 1 + 1 + 1 + 1 + 1, 0, none⟩) 1 1 [.slice (some ⟨w3.heap.size + 1 + 1 + 1 + 1 + 1 + 1 + 1, 0, none⟩) 2 2] := by have q := Rd.made V8 43 1 [.slice (some ⟨w3.heap.size + 1 + 1 + 1 + 1 + 1 + 1 + 1, 0, none⟩) 2 2] 1 rfl (by decide); rw [s8] at q; subst h9; exact q
    have kc0 : V10.cell? ⟨w3.heap.size + 1 + 1 + 1 + 1 + 1 + 1 + 1 + 1 + 1, 0, none⟩ = some (.slice (some ⟨w3.heap.size + 1 + 1 + 1 + 1 + 1 + 1 + 1 + 1, 0, none⟩) 1 1) := by subst h10; rw [← s9]; go_simp
    have kc1 : V10.cell? ⟨w3.heap.size + 1 + 1 + 1 + 1 + 1 + 1 + 1 + 1 + 1, 1, none⟩ = some (.int .i64 1) := by subst h10; rw [← s9]; go_simp
    have kc2 : V10.cell? ⟨w3.heap.size + 1 + 1 + 1 + 1 + 1 + 1 + 1 + 1 + 1, 2, none⟩ = some (.slice GB 128 gd) := by subst h10; rw [← s9]; go_simp
    have y9 : Ext V9 V10 := x10
    have y8 : Ext V8 V10 := x9.trans y9
    have y7 : Ext V7 V10 := x8.trans y8
    have y6 : Ext V6 V10 := x7.trans y7
    have y5 : Ext V5 V10 := x6.trans y6
    have y4 : Ext V4 V10 := x5.trans y5
    have y3 : Ext V3 V10 := x4.trans y4
    have y2 : Ext V2 V10 := x3.trans y3
    have y1 : Ext V1 V10 := x2.trans y2
    have y0 : Ext w3 V10 := x1.trans y1
    have pa := rp_one (r1.ext y1) (r2.ext y2)
    have pb := rp_pair (r4.ext y4) (r5.ext y5) (r6.ext y6)
    have pc := rp_one (r8.ext y8) (r9.ext y9)
    have ka0 := y3.cell ka0
    have kb0 := y7.cell kb0
    have ka1 := y3.cell ka1
    have kb1 := y7.cell kb1
    have ka2 := y3.cell ka2
    have kb2 := y7.cell kb2
    have g0 := y0.cell g0
    have g1 := y0.cell g1
    have hgb := hgb.ext y0
    have hro := hro.ext y0
    have e3 := e3.trans y0
    have na : w3.heap.size + 1 + 1 < V10.heap.size := World.block_lt_of_cell? V10 _ ka0
    clear h1 x1 s1
    clear h2 x2 s2
    clear h3 x3 s3
    clear h4 x4 s4
    clear h5 x5 s5
    clear h6 x6 s6
    clear h7 x7 s7
    clear h8 x8 s8
    clear h9 x9 s9
    clear h10 x10 s10
    clear y0 y1 y2 y3 y4 y5 y6 y7 y8 y9 r1 r2 r4 r5 r6 r8 r9 na)
  generalize w3.heap.size + 1 + 1 + 1 + 1 + 1 + 1 + 1 + 1 + 1 = zc at *
  generalize w3.heap.size + 1 + 1 + 1 + 1 + 1 + 1 + 1 + 1 = yc at *
  generalize w3.heap.size + 1 + 1 + 1 + 1 + 1 + 1 = zb at *
  generalize w3.heap.size + 1 + 1 + 1 + 1 + 1 = yb at *
  generalize w3.heap.size + 1 + 1 = za at *
  generalize w3.heap.size + 1 = ya at *
  have hR1 : Calls Try.prog 23 #[pAgg [115, 117, 109] PA 12 12, tAgg (some ⟨ya, 0, none⟩) 1 1 1 GB 128 gd] V10 (IsB V10 true) := by
    rw [← Hr1.out]; exact Hrt.out V10 [[1, 2]] 1 (gameL G) _ 1 1 _ 128 gd hro pa hgb (by decide)
  have hR2 : ∀ W, Ro W PA 12 12 ops22 → Calls Try.prog 23 #[pAgg [115, 117, 109] PA 12 12, tAgg none 0 0 1 none 0 0] W (IsB W false) := fun W h0 => by
    rw [← Hr2.out]; exact Hrt.out W [] 1 [] _ 0 0 _ 0 0 h0 (Rp.nil_ _) (Rb.nil_ _) (by decide)
  unfold pAgg tAgg at hR1 hR2
  clear Hr1 Hr2 Hrt
  have HR2 := Lib.hid hR2
  clear hR2
  refine Calls.mono hR1 ?_
  rintro e w5 ⟨rfl, e5⟩
  have ka0 := e5.cell ka0
  have ka1 := e5.cell ka1
  have ka2 := e5.cell ka2
  have kb0 := e5.cell kb0
  have kb1 := e5.cell kb1
  have kb2 := e5.cell kb2
  have kc0 := e5.cell kc0
  have kc1 := e5.cell kc1
  have kc2 := e5.cell kc2
  have g0 := e5.cell g0
  have g1 := e5.cell g1
  have pa := pa.ext e5
  have pb := pb.ext e5
  have pc := pc.ext e5
  have hgb := hgb.ext e5
  have hro := hro.ext e5
  have e3 := e3.trans e5
  clear e5
  clear hR1
  go_wp2_with fail
  refine Calls.mono (HR2.out _ hro) ?_
  rintro e w6 ⟨rfl, e5⟩
  have ka0 := e5.cell ka0
  have ka1 := e5.cell ka1
  have ka2 := e5.cell ka2
  have kb0 := e5.cell kb0
  have kb1 := e5.cell kb1
  have kb2 := e5.cell kb2
  have kc0 := e5.cell kc0
  have kc1 := e5.cell kc1
  have kc2 := e5.cell kc2
  have g0 := e5.cell g0
  have g1 := e5.cell g1
  have pa := pa.ext e5
  have pb := pb.ext e5
  have pc := pc.ext e5
  have hgb := hgb.ext e5
  have hro := hro.ext e5
  have e3 := e3.trans e5
  clear e5
  clear HR2
  go_wp2_with fail
  have hA1 := agree_any _ _ 2 2 _ (rt_two_new (T := 51) (h1 := ((some ⟨ya, 0, none⟩, 1, 1), 1, (GB, 128, gd))) (h2 := ((some ⟨yb, 0, none⟩, 2, 2), 1, (GB, 128, gd))) (x := ([[1, 2]], (1 : Int), gameL G)) (y := ([[1, 2], [3, 4]], (1 : Int), gameL G)) ⟨pa, rfl, hgb⟩ ⟨pb, rfl, hgb⟩)
  rw [Ha1.out] at hA1
  refine Calls.mono hA1 ?_
  rintro e w7 ⟨rfl, e5⟩
  have e5 := (Ext.alloc w6 _).trans e5
  have ka0 := e5.cell ka0
  have ka1 := e5.cell ka1
  have ka2 := e5.cell ka2
  have kb0 := e5.cell kb0
  have kb1 := e5.cell kb1
  have kb2 := e5.cell kb2
  have kc0 := e5.cell kc0
  have kc1 := e5.cell kc1
  have kc2 := e5.cell kc2
  have pa := pa.ext e5
  have pb := pb.ext e5
  have pc := pc.ext e5
  have hgb := hgb.ext e5
  have e3 := e3.trans e5
  clear e5
  clear hA1 Ha1
  go_wp2_with fail
  have hA2 := agree_any _ _ 2 2 _ (rt_two_new (T := 51) (h1 := ((some ⟨ya, 0, none⟩, 1, 1), 1, (GB, 128, gd))) (h2 := ((some ⟨yc, 0, none⟩, 1, 1), 1, (GB, 128, gd))) (x := ([[1, 2]], (1 : Int), gameL G)) (y := ([[1, 3]], (1 : Int), gameL G)) ⟨pa, rfl, hgb⟩ ⟨pc, rfl, hgb⟩)
  rw [Ha2.out] at hA2
  refine Calls.mono hA2 ?_
  rintro e w8 ⟨rfl, e5⟩
  have e5 := (Ext.alloc w7 _).trans e5
  have ka0 := e5.cell ka0
  have ka1 := e5.cell ka1
  have ka2 := e5.cell ka2
  have kb0 := e5.cell kb0
  have kb1 := e5.cell kb1
  have kb2 := e5.cell kb2
  have kc0 := e5.cell kc0
  have kc1 := e5.cell kc1
  have kc2 := e5.cell kc2
  have pa := pa.ext e5
  have pb := pb.ext e5
  have pc := pc.ext e5
  have hgb := hgb.ext e5
  have e3 := e3.trans e5
  clear e5
  clear hA2 Ha2
  go_wp2_with fail
  have hF1 := front_any _ _ 2 2 _ (rt_two_new (T := 51) (h1 := ((some ⟨ya, 0, none⟩, 1, 1), 1, (GB, 128, gd))) (h2 := ((none, 0, 0), 0, (none, 0, 0))) (x := ([[1, 2]], (1 : Int), gameL G)) (y := ([], (0 : Int), [])) ⟨pa, rfl, hgb⟩ ⟨Rp.nil_ _, rfl, Rb.nil_ _⟩)
  rw [front_two] at hF1
  refine Calls.mono hF1 ?_
  rintro e w9 ⟨rfl, e5⟩
  have e5 := (Ext.alloc w8 _).trans e5
  have ka0 := e5.cell ka0
  have ka1 := e5.cell ka1
  have ka2 := e5.cell ka2
  have kb0 := e5.cell kb0
  have kb1 := e5.cell kb1
  have kb2 := e5.cell kb2
  have kc0 := e5.cell kc0
  have kc1 := e5.cell kc1
  have kc2 := e5.cell kc2
  have pa := pa.ext e5
  have pb := pb.ext e5
  have pc := pc.ext e5
  have hgb := hgb.ext e5
  have e3 := e3.trans e5
  clear e5
  clear hF1
  have hmin : min ((1 : Int)) 0 = 0 := by decide
  go_wp2_with fail
  have hF2 := front_any w9 none 0 0 [] (Rt.nil_ _)
  refine Calls.mono hF2 ?_
  rintro e w10 ⟨rfl, e5⟩
  have e3 := e3.trans e5
  clear hF2
  have hfr : frontT [] = 0 := rfl
  go_wp2_with fail
  go_ret
  exact ⟨rfl, e3⟩
end Go.Proofs.Ytihegdjdgklbgaa
