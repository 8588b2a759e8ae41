/- Two frames of the law's own: begun of law 20; a game in a slice of games, by its number. -/
import Derived.Test.YtihegdjdgklbgaaFoE
namespace Go.Proofs.Ytihegdjdgklbgaa
set_option maxRecDepth 100000
open Go.RowKit
set_option linter.unusedVariables false

def ops20 : List OpT := [(11, 1, 0, 0), (3, 2, 2, 1)]
def g20a : List Int := [0, 3, 3] ++ List.replicate 29 0
def g20b : List Int := [0, 4, 7] ++ List.replicate 29 0
def g20c : List Int := [0, 4, 14] ++ List.replicate 29 0
theorem each20 : eachK [116] ops20 [[3], [4]] 2 = [zeroG, g20a, g20b] := by decide +kernel
theorem all20 : foldN [116] ops20 0 zeroG [[3], [4]] = g20b := by decide +kernel
theorem from20 : foldN [116] ops20 2 g20b [[3], [4]] = g20c := by decide +kernel
theorem wpList_load_wanted {P : Program} {w : World} {b : Nat} {g : List Int} {ops : Array Oper} {rest : List Oper} {o : Oper} {a : Act} {Q : Exit → Act → World → Prop} (hw : Region.wanted o (yielded ops a.tmps) = true) (ty : TypeId) (x : Operand) (ho : o.op = .load ty x)
    (hx : a.eval x = .pointer (some ⟨b, 0, none⟩)) {e : TypeId} (hu : P.underlying ty = some (.array 32 e)) (hi : (P.info? ty).map (·.size) = some 32) (h : Gm w b g)
    (hk : wpList P ops Q rest (a.put o.dst (.agg (gcs g))) w) : wpList P ops Q (o :: rest) a w := by
  refine wpList_step fun K hK => ?_
  simp only [hw, if_true]
  unfold Oper.wp execOp
  simp only [ho, hx, Instr.loadAt, Instr.sureAddr, Sem.run_bind, Sem.run_pure, Result.andThen_ok, gm_load hu hi h]
  exact hK _ _ hk
theorem rp_two {V : World} {b1 b2 B : Nat} {x y : UInt8} (h1 : Rb V (some ⟨b1, 0, none⟩) 1 1 [x]) (h2 : Rb V (some ⟨b2, 0, none⟩) 1 1 [y]) (h : Rd V 1 (some ⟨B, 0, none⟩) 2 2 [.slice (some ⟨b1, 0, none⟩) 1 1, .slice (some ⟨b2, 0, none⟩) 1 1]) : Rp V (some ⟨B, 0, none⟩) 2 2 [[x], [y]] := by
  refine ⟨[(some ⟨b1, 0, none⟩, 1, 1), (some ⟨b2, 0, none⟩, 1, 1)], h, rfl, fun i hd p hi hp => ?_⟩
  match i, hi, hp with
  | 0, hi, hp => cases Option.some.inj hi; cases Option.some.inj hp; exact h1
  | 1, hi, hp => cases Option.some.inj hi; cases Option.some.inj hp; exact h2
  | i + 2, hi, _ => simp at hi
set_option maxRecDepth 100000 in
set_option maxHeartbeats 2000000 in
theorem begun20_any (w : World) : Calls Try.prog 11 #[] w (Yes w) := by
  go_enter Try.func11, Try.ntmps11
  go_wp2_with fail
  generalize hV : World.alloc (World.alloc (World.alloc (World.alloc (World.alloc w _) _) _) _) _ = V
  have eV : Ext w V := by subst hV; exact ((((Ext.alloc _ _).trans (Ext.alloc _ _)).trans (Ext.alloc _ _)).trans (Ext.alloc _ _)).trans (Ext.alloc _ _)
  have lV : Ro V (some ⟨w.heap.size, 0, none⟩) 2 2 ops20 := by subst hV; exact ((((ro_new rfl rfl rfl (by decide)).ext (Ext.alloc _ _)).ext (Ext.alloc _ _)).ext (Ext.alloc _ _)).ext (Ext.alloc _ _)
  have p1 : Rb V (some ⟨w.heap.size + 1 + 1, 0, none⟩) 1 1 [3] := by subst hV; exact ((rb_new (by simp) rfl rfl (by decide)).ext (Ext.alloc _ _)).ext (Ext.alloc _ _)
  have p2 : Rb V (some ⟨w.heap.size + 1 + 1 + 1, 0, none⟩) 1 1 [4] := by subst hV; exact (rb_new (by simp) rfl rfl (by decide)).ext (Ext.alloc _ _)
  have pV : Rp V (some ⟨w.heap.size + 1 + 1 + 1 + 1, 0, none⟩) 2 2 [[3], [4]] := by
    refine rp_two p1 p2 ?_
    subst hV
    have h := Rd.made ((((w.alloc (.cells #[.int .i64 11, .int .i64 1, .int .i64 0, .int .i64 0, .int .i64 3, .int .i64 2, .int .i64 2, .int .i64 1] 46)).alloc (.cells #[.string { data := #[116] }, .slice (some ⟨w.heap.size, 0, none⟩) 2 2] 24)).alloc (.cells #[.int .u8 3] 5)).alloc (.cells #[.int .u8 4] 5)) 43 1 [.slice (some ⟨w.heap.size + 1 + 1, 0, none⟩) 1 1, .slice (some ⟨w.heap.size + 1 + 1 + 1, 0, none⟩) 1 1] 2 rfl (by decide)
    simpa using h
  have c0 : V.cell? ⟨w.heap.size + 1, 0, none⟩ = some (.string { data := #[116] }) := by subst hV; go_simp
  have c1 : V.cell? ⟨w.heap.size + 1, 1, none⟩ = some (.slice (some ⟨w.heap.size, 0, none⟩) 2 2) := by subst hV; go_simp
  clear hV p1 p2
  have hea := each_any V [116] _ 2 2 ops20 _ 2 2 [[3], [4]] (by decide) lV pV (by decide)
  have hal := fun W h1 h2 => all_any W [116] (some ⟨w.heap.size, 0, none⟩) 2 2 ops20 (some ⟨w.heap.size + 1 + 1 + 1 + 1, 0, none⟩) 2 2 [[3], [4]] (by decide) h1 h2 (by decide)
  have hfr := fun W h1 h2 => from_any W [116] (some ⟨w.heap.size, 0, none⟩) 2 2 ops20 2 (some ⟨w.heap.size + 1 + 1 + 1 + 1, 0, none⟩) 2 2 [[3], [4]] g20b (by decide) h1 h2 (by rw [← all20]; exact foldN_ok _ _ _ _ zeroG_ok) (by decide) (by decide) (by decide)
  rw [all20] at hal
  rw [from20] at hfr
  unfold pAgg at hea hal hfr
  have Hea := Lib.hid hea
  have Hal := Lib.hid hal
  have Hfr := Lib.hid hfr
  clear hea hal hfr
  refine Calls.mono Hea.out ?_
  rintro e w1 ⟨B, d, rfl, hrg, e1⟩
  change Rg w1 B 3 d (eachK [116] ops20 [[3], [4]] 2) at hrg
  rw [each20] at hrg
  obtain ⟨gb, go, rfl, ga0⟩ := hrg.at_ (k := 0) (by decide)
  obtain ⟨gb', go', hbo, ga1⟩ := hrg.at_ (k := 1) (by decide)
  cases hbo
  have f0 : w1.cell? ⟨gb, go + 2, none⟩ = some (.int .i32 0) := ga0.2 2 (by decide)
  have f1 : w1.cell? ⟨gb, go + 32 + 2, none⟩ = some (.int .i32 3) := ga1.2 2 (by decide)
  have d0 := e1.cell c0
  have d1 := e1.cell c1
  have x1 := eV.trans e1
  have l1 := lV.ext e1
  have p1 := pV.ext e1
  clear hrg ga0 ga1 Hea
  go_wp2_with fail
  refine Calls.mono (Hal.out _ l1 p1) ?_
  rintro e w2 ⟨rfl, e2⟩
  have d0 := e2.cell d0
  have d1 := e2.cell d1
  have f0 := e2.cell f0
  have f1 := e2.cell f1
  have x2 := x1.trans e2
  have l2 := l1.ext e2
  have p2 := p1.ext e2
  have hg20 : g20b.length = 32 := rfl
  go_wp2_with (first
    | ((with_reducible refine wpList_put_new _ rfl 31 (.tmp 4) (.tmp 17) rfl rfl rfl hg20 size_state ?_); intro W2 b2 y2 s2; clear s2; have q2 : W2.cell? ⟨w2.heap.size, 2, none⟩ = some (.int .i32 7) := (b2.gm.2 2 (by decide)).1; have d0 := y2.cell d0; have d1 := y2.cell d1; have f0 := y2.cell f0; have f1 := y2.cell f1; have x3 := x2.trans y2; have l3 := l2.ext y2; have p3 := p2.ext y2; have m3 := b2.gm; clear b2)
    | ((with_reducible refine wpList_load_wanted ?hw 31 (.tmp 4) rfl rfl Try.underlying31 size_state m3 ?_); case hw => rfl))
  refine Calls.mono (Hfr.out _ l3 p3) ?_
  rintro e w4 ⟨rfl, e4⟩
  have hat : ∀ W : World, (Instr.index 31 (.agg (gcs g20c)) (.int .i64 2)).run Try.prog W = .ok (.int .i32 14) W := fun W => by kernel_rfl
  clear Hal Hfr
  go_wp2_with fail
  go_ret
  exact ⟨rfl, x3.trans e4⟩
end Go.Proofs.Ytihegdjdgklbgaa
