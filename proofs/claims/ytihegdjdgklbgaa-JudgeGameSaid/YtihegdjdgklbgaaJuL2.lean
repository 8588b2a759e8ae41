/- The walk of the law JudgeGame. -/
import Derived.Test.YtihegdjdgklbgaaJuB
namespace Go.Proofs.Ytihegdjdgklbgaa
set_option maxRecDepth 100000
open Go.RowKit
set_option linter.unusedVariables false

theorem cell32 (x : Int) : ∃ c : Nat, c < 32 ∧ (IntKind.i64.wrap (x.tmod 32 + 32)).tmod 32 = c ∧ (x.tmod 32 + 32).tmod 32 = c ∧ -31 ≤ x.tmod 32 ∧ x.tmod 32 ≤ 31 := by
  have h1 : -32 < x.tmod 32 := Int.lt_tmod_of_pos x (by decide)
  have h2 : x.tmod 32 < 32 := Int.tmod_lt_of_pos x (by decide)
  have e : IntKind.i64.wrap (x.tmod 32 + 32) = x.tmod 32 + 32 := by rw [IntKind.wrap_i64]; omega
  have h3 : (x.tmod 32 + 32).tmod 32 = (x.tmod 32 + 32) % 32 := Int.tmod_eq_emod_of_nonneg (by omega)
  exact ⟨((x.tmod 32 + 32) % 32).toNat, by omega, by rw [e, h3]; omega, by rw [h3]; omega, by omega, by omega⟩
set_option maxRecDepth 100000 in
set_option maxHeartbeats 4000000 in
theorem game_walk (w : World) (A : Option Addr) (n c : Nat) (ps : List (List UInt8)) (hp : Rp w A n c ps) (x : Int) (_x0 : -9223372036854775808 ≤ x) (_x1 : x ≤ 9223372036854775807) (v : Int) (v0 : -2147483648 ≤ v) (v1 : v ≤ 2147483647) :
    Calls Try.prog 10 #[.slice A n c, .int .i64 x, .int .i32 v] w (Yes w) := by
  clear _x0 _x1
  obtain ⟨k, hk, hr1, hr2, hr3, hr4⟩ := cell32 x
  go_enter Try.func10, Try.ntmps10
  go_wp2_with fail
  refine (begun28_any _).mono ?_
  rintro e w1 ⟨rfl, e1⟩
  go_wp2_with fail
  refine (presses_any w w1 e1 A n c ps 8 hp (by decide)).mono ?_
  rintro e w2 ⟨B, m, d, rfl, hq, e2⟩
  obtain ⟨Q, hQ⟩ : ∃ Q, (ps.take 8).map (·.take 9) = Q := ⟨_, rfl⟩
  have hQl : Q.length ≤ 8 := by subst hQ; simp; omega
  rw [hQ] at hq
  have hrq := hq.rp
  have x2 := e1.trans e2
  clear hq hQ e1 e2 hp
  have hm := hrq.len
  have hmx := hrq.max
  unfold maxLen at hmx
  subst hm
  go_wp2_with fail
  refine (prog22_any _).mono ?_
  rintro e w3 ⟨PA, rfl, hro, e3⟩
  have hG := foldN_ok [115, 117, 109] ops22 Q 0 zeroG_ok
  have hrt := fun W (f : Int) (G : List UInt8) A1 n1 c1 B1 m1 d1 h0 h1 h2 => right_any W [115, 117, 109] PA 12 12 ops22 (by decide) h0 A1 n1 c1 f B1 m1 d1 Q G h1 h2 (by omega)
  have hfo := fun W A1 n1 c1 h1 h2 => rfold_any W [115, 117, 109] PA 12 12 ops22 0 A1 n1 c1 Q zeroG (by decide) h1 h2 zeroG_ok (by decide) (by decide) (by omega)
  have hright : ∀ G', rightT [115, 117, 109] ops22 (Q, (Q.length : Int), G') = (G' == gameL (foldN [115, 117, 109] ops22 0 zeroG Q)) := fun G' => by
    unfold rightT mayT
    simp
  obtain ⟨G, hGe⟩ : ∃ G, foldN [115, 117, 109] ops22 0 zeroG Q = G := ⟨_, rfl⟩
  rw [hGe] at hG hfo
  rw [hGe] at hright
  clear hGe
  have hagr : ∀ G', agreeT (Q, (Q.length : Int), gameL G) (Q, (Q.length : Int), G') = (G' == gameL G) := fun G' => by
    unfold agreeT mayT
    simp [BEq.comm]
  have hset := gameL_set hG hk (show ok32 v from ⟨v0, v1⟩)
  have hokS : okG (G.set k v) := ⟨by simp [hG.1], fun y hy => by
    rcases List.mem_or_eq_of_mem_set hy with h3 | h3
    · exact hG.2 y h3
    · rw [h3]; exact ⟨v0, v1⟩⟩
  have HG := Lib.hid hG
  have HG32 := Lib.hid hG.1
  have HS := Lib.hid hokS
  have Hrt := Lib.hid hrt
  have Hfo := Lib.hid hfo
  have Hri := Lib.hid hright
  have Hag := Lib.hid hagr
  have Hset := Lib.hid hset
  have x3 := x2.trans e3
  have hrq := hrq.ext e3
  clear hG hrt hfo hright hagr hset hokS x2 e3
  unfold pAgg at *
  go_wp2_with fail
  generalize hV : World.alloc w3 _ = V
  have eV : Ext w3 V := by subst hV; exact Ext.alloc _ _
  have p0 : V.cell? ⟨w3.heap.size, 0, none⟩ = some (.string (bs [115, 117, 109])) := by subst hV; go_simp
  have p1 : V.cell? ⟨w3.heap.size, 1, none⟩ = some (.slice PA 12 12) := by subst hV; go_simp
  have x4 := x3.trans eV
  have hro := hro.ext eV
  have hrq := hrq.ext eV
  clear hV eV x3
  generalize w3.heap.size = bp at *
  refine Calls.mono (Hfo.out V _ _ _ hro hrq) ?_
  rintro e w4 ⟨rfl, e4⟩
  have p0 := e4.cell p0
  have p1 := e4.cell p1
  have hro := hro.ext e4
  have hrq := hrq.ext e4
  have x4 := x4.trans e4
  clear e4
  clear Hfo
  go_wp2_with (first
    | (with_reducible refine wpList_load_gm rfl 33 (.tmp 9) rfl rfl Try.underlying33 size_game g9s ?_)
    | ((with_reducible refine wpList_put_new _ rfl 33 (.tmp 9) (.tmp 23) rfl rfl rfl HG32.out size_game ?_); intro W2 b2 y2 s2; clear s2; have p0 := y2.cell p0; have p1 := y2.cell p1; have hro := hro.ext y2; have hrq := hrq.ext y2; have x4 := x4.trans y2; have l2 := b2.lt; have g9 := b2.gm; have hbp := World.block_lt_of_cell? W2 _ p0; have lro := Rd.lt hro (by decide); have hrq2 := hrq; have hle := x4.size)
    | (with_reducible refine wpList_load_gm rfl 33 (.tmp 9) rfl rfl Try.underlying33 size_game g9 ?_)
    | ((with_reducible refine wpList_put_new _ rfl 33 (.tmp 10) (.tmp 24) rfl rfl rfl HG32.out size_game ?_); intro W3 b3 y3 s3; clear s3; have p0 := y3.cell p0; have p1 := y3.cell p1; have hro := hro.ext y3; have hrq := hrq.ext y3; have x4 := x4.trans y3; have g9 := g9.ext y3; have q0 := (b3.gm.2 k hk).1; have q1 := (b3.gm.2 k hk).2; have g9s := g9.grown (grown_setG W3 W2.heap.size k (.int .i32 v)) (by simp; omega))
    | fail)
  generalize hW4 : World.setCell W3 _ _ = W4
  have gr : W3.grownBy W4 (some W2.heap.size) := by subst hW4; exact grown_setG _ _ _ _
  have g10 : Gm W4 W2.heap.size (G.set k v) := by subst hW4; exact b3.gm.set_ (i := (k : Int)) (by omega) (by omega) v
  have x4 : Ext w W4 := by subst hW4; exact x4.setCell hle _
  have p0 := gr.cell p0 (by simp; omega)
  have p1 := gr.cell p1 (by simp; omega)
  have g9 := g9.grown gr (by simp; omega)
  have hrq := Rp.keep hrq2 y3 (Nat.le_refl _) gr
  have hro := Rd.grownP hro gr (fun h a ha e => by have := lro a ha; have := Option.some.inj e; omega)
  clear hW4 gr q0 q1 b3 y3 hrq2 lro g9s
  refine Calls.mono (rbytes_any _ G HG.out) ?_
  rintro e w5 ⟨B1, d1, rfl, hb1, e5⟩
  have p0 := e5.cell p0
  have p1 := e5.cell p1
  have hro := hro.ext e5
  have hrq := hrq.ext e5
  have g9 := g9.ext e5
  have g10 := g10.ext e5
  have x4 := x4.trans e5
  clear e5
  have p0s := World.block_lt_of_cell? w5 _ p0
  go_wp2_with (first
    | (generalize hV5 : World.alloc w5 _ = V5
       have eV : Ext w5 V5 := by subst hV5; exact Ext.alloc _ _
       have ka0 : V5.cell? ⟨w5.heap.size, 0, none⟩ = some (.slice B Q.length d) := by subst hV5; go_simp
       have ka1 : V5.cell? ⟨w5.heap.size, 1, none⟩ = some (.int .i64 (Q.length : Nat)) := by subst hV5; go_simp
       have ka2 : V5.cell? ⟨w5.heap.size, 2, none⟩ = some (.slice B1 128 d1) := by subst hV5; go_simp
       have p0 := eV.cell p0
       have p1 := eV.cell p1
       have hro := hro.ext eV
       have hrq := hrq.ext eV
       have g9 := g9.ext eV
       have g10 := g10.ext eV
       have hb1 := hb1.ext eV
       have x4 := x4.trans eV
       clear eV
       clear hV5)
    | (with_reducible refine wpList_load_gm rfl 33 (.tmp 9) rfl rfl Try.underlying33 size_game g9 ?_)
    | (with_reducible refine wpList_load_gm rfl 33 (.tmp 10) rfl rfl Try.underlying33 size_game g10 ?_)
    | fail)
  refine Calls.mono (rbytes_any _ (G.set k v) HS.out) ?_
  rintro e w6 ⟨B2, d2, rfl, hb2, e5⟩
  have p0 := e5.cell p0
  have p1 := e5.cell p1
  have ka0 := e5.cell ka0
  have ka1 := e5.cell ka1
  have ka2 := e5.cell ka2
  have hro := hro.ext e5
  have hrq := hrq.ext e5
  have g9 := g9.ext e5
  have g10 := g10.ext e5
  have hb1 := hb1.ext e5
  have x4 := x4.trans e5
  clear e5
  have q9 := (g9.2 k hk).1
  go_wp2_with (first
    | (generalize hV6 : World.alloc w6 _ = V6
       have eV : Ext w6 V6 := by subst hV6; exact Ext.alloc _ _
       have kb0 : V6.cell? ⟨w6.heap.size, 0, none⟩ = some (.slice B Q.length d) := by subst hV6; go_simp
       have kb1 : V6.cell? ⟨w6.heap.size, 1, none⟩ = some (.int .i64 (Q.length : Nat)) := by subst hV6; go_simp
       have kb2 : V6.cell? ⟨w6.heap.size, 2, none⟩ = some (.slice B2 128 d2) := by subst hV6; go_simp
       have p0 := eV.cell p0
       have p1 := eV.cell p1
       have ka0 := eV.cell ka0
       have ka1 := eV.cell ka1
       have ka2 := eV.cell ka2
       have q9 := eV.cell q9
       have hro := hro.ext eV
       have hrq := hrq.ext eV
       have g9 := g9.ext eV
       have g10 := g10.ext eV
       have hb1 := hb1.ext eV
       have hb2 := hb2.ext eV
       have x4 := x4.trans eV
       clear eV
       clear hV6)
    | (with_reducible refine wpList_load_gm rfl 33 (.tmp 9) rfl rfl Try.underlying33 size_game g9 ?_)
    | (with_reducible refine wpList_load_gm rfl 33 (.tmp 10) rfl rfl Try.underlying33 size_game g10 ?_)
    | fail)
  have hset := Hset.out
  rw [List.getD_eq_getElem?_getD] at hset
  clear Hset q9 g9 g10
  generalize (G[k]?.getD 0 == v) = s at *
  have hR1 := Hrt.out V6 (Q.length : Int) (gameL G) _ _ _ _ _ _ hro hrq hb1
  rw [Hri.out, beq_self_eq_true] at hR1
  have hR2 := fun W h0 h1 h2 => Hrt.out W (Q.length : Int) (gameL (G.set k v)) B Q.length d B2 128 d2 h0 h1 h2
  rw [Hri.out, hset] at hR2
  have hag := Hag.out (gameL (G.set k v))
  rw [hset] at hag
  unfold tAgg at hR1 hR2
  have HR2 := Lib.hid hR2
  have Hag2 := Lib.hid hag
  clear hR2 hag hset Hag Hri Hrt
  generalize w5.heap.size = ba at *
  generalize w6.heap.size = bb at *
  refine Calls.mono hR1 ?_
  rintro e w7 ⟨rfl, e5⟩
  clear hR1
  have p0 := e5.cell p0
  have p1 := e5.cell p1
  have ka0 := e5.cell ka0
  have ka1 := e5.cell ka1
  have ka2 := e5.cell ka2
  have kb0 := e5.cell kb0
  have kb1 := e5.cell kb1
  have kb2 := e5.cell kb2
  have hro := hro.ext e5
  have hrq := hrq.ext e5
  have hb1 := hb1.ext e5
  have hb2 := hb2.ext e5
  have x4 := x4.trans e5
  clear e5
  go_wp2_with fail
  refine Calls.mono (HR2.out _ hro hrq hb2) ?_
  rintro e w8 ⟨rfl, e5⟩
  have p0 := e5.cell p0
  have p1 := e5.cell p1
  have ka0 := e5.cell ka0
  have ka1 := e5.cell ka1
  have ka2 := e5.cell ka2
  have kb0 := e5.cell kb0
  have kb1 := e5.cell kb1
  have kb2 := e5.cell kb2
  have hro := hro.ext e5
  have hrq := hrq.ext e5
  have hb1 := hb1.ext e5
  have hb2 := hb2.ext e5
  have x4 := x4.trans e5
  clear e5
  clear HR2
  go_wp2_with fail
  have hA1 := agree_any _ _ 2 2 _ (rt_two_new (T := 51) (h1 := ((B, Q.length, d), (Q.length : Int), (B1, 128, d1))) (h2 := ((B, Q.length, d), (Q.length : Int), (B2, 128, d2))) (x := (Q, (Q.length : Int), gameL G)) (y := (Q, (Q.length : Int), gameL (G.set k v))) ⟨hrq, rfl, hb1⟩ ⟨hrq, rfl, hb2⟩)
  rw [agN_two, Hag2.out] at hA1
  refine Calls.mono hA1 ?_
  rintro e w9 ⟨rfl, e5⟩
  have e5 := (Ext.alloc w8 _).trans e5
  clear hA1 Hag2
  have p0 := e5.cell p0
  have p1 := e5.cell p1
  have ka0 := e5.cell ka0
  have ka1 := e5.cell ka1
  have ka2 := e5.cell ka2
  have kb0 := e5.cell kb0
  have kb1 := e5.cell kb1
  have kb2 := e5.cell kb2
  have hro := hro.ext e5
  have hrq := hrq.ext e5
  have hb1 := hb1.ext e5
  have hb2 := hb2.ext e5
  have x4 := x4.trans e5
  clear e5
  go_wp2_with fail
  have hF1 := front_any _ _ 2 2 _ (rt_two_new (T := 51) (h1 := ((B, Q.length, d), (Q.length : Int), (B1, 128, d1))) (h2 := ((B, Q.length, d), (Q.length : Int), (B2, 128, d2))) (x := (Q, (Q.length : Int), gameL G)) (y := (Q, (Q.length : Int), gameL (G.set k v))) ⟨hrq, rfl, hb1⟩ ⟨hrq, rfl, hb2⟩)
  rw [front_two] at hF1
  refine Calls.mono hF1 ?_
  rintro e w10 ⟨rfl, e5⟩
  have e5 := (Ext.alloc w9 _).trans e5
  have x5 := x4.trans e5
  have hmin : min (Q.length : Int) (Q.length : Int) = Q.length := by omega
  clear hF1
  go_wp2_with fail
  go_ret
  exact ⟨rfl, x5⟩
end Go.Proofs.Ytihegdjdgklbgaa
