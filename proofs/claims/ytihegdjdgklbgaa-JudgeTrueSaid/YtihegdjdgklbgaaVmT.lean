/- vm.Step: a frame over a game by value. -/
import Derived.Test.YtihegdjdgklbgaaVmA
namespace Go.Proofs.Ytihegdjdgklbgaa
set_option maxRecDepth 100000
open Go.RowKit
set_option linter.unusedVariables false

set_option maxRecDepth 100000 in
set_option maxHeartbeats 2000000 in
theorem step_any (w : World) (t : List UInt8) (A : Option Addr) (n c : Nat) (l : List OpT) (frame : Int) (Pa : Option Addr) (pn pc : Nat) (press : List UInt8) (g : List Int)
    (ht : t.length ≤ 1099511627776) (hl : Ro w A n c l) (hp : Rb w Pa pn pc press) (hok : okG g) :
    Calls Try.prog 30 #[pAgg t A n c, .agg (gcs g), .int .i64 frame, .slice Pa pn pc] w fun e w' => e = .returned (.agg (gcs (stepN t press frame l g).1)) ∧ Ext w w' := by
  have hg32 := hok.1
  have hsz : (gcs g).size = 32 := by rw [gcs_size, hg32]
  have hfold := foldSet g hg32
  obtain ⟨G', hG'⟩ : ∃ x, (stepN t press frame l g).1 = x := ⟨_, rfl⟩
  have hokG : G'.length = 32 := by rw [← hG']; exact (stepN_ok t press frame l hok).1
  rw [hG']
  have HG' := Lib.hid hG'
  have hl32' := Lib.hid hokG
  clear hG' hokG
  unfold pAgg
  go_enter Try.func30, Try.ntmps30
  go_wp2_with (with_reducible refine wpList_load_gm rfl 31 (.tmp 5) rfl rfl Try.underlying31 size_state (g := g) ((Blk.new' _ _ hg32 (by simp)).gm.ext (Ext.alloc _ _)) ?_)
  generalize hV : World.alloc (World.alloc (World.alloc (World.alloc w _) _) _) _ = V
  have eV : Ext w V := by subst hV; exact (((Ext.alloc _ _).trans (Ext.alloc _ _)).trans (Ext.alloc _ _)).trans (Ext.alloc _ _)
  have bR : Blk V (w.heap.size + 1 + 1) 31 zeroG := by subst hV; exact (Blk.new' _ _ rfl (by simp)).ext (Ext.alloc _ _)
  have bC : Gm V (w.heap.size + 1 + 1 + 1) g := by subst hV; exact (Blk.new' _ _ hg32 (by simp)).gm
  clear hV
  have hrun := run_any V (w.heap.size + 1 + 1 + 1) 77 t A n c l frame Pa pn pc press g (memI_cells _) ht (hl.ext eV) (hp.ext eV) bC hok (fun h a ha => by have := Rd.lt hl (by omega) a ha; omega) (fun h a ha => by have := Rd.lt hp (by omega) a ha; omega) HG'.out rfl
  unfold pAgg at hrun
  have Hrun := Lib.hid hrun
  clear hrun hfold hsz hg32 hok
  refine Calls.mono Hrun.out ?_
  rintro e w1 ⟨rfl, gW, pW⟩
  have rW := bR.grown pW.1 (by simp)
  have eW : Ext w w1 := below_of_grown pW.1 eV.size (fun k hk => by cases hk; omega) |> fun h => Below.trans eV (Below.mono h (Nat.le_refl _))
  go_wp2_with (first
    | (with_reducible refine wpList_load_gm rfl 31 (.tmp 21) rfl rfl Try.underlying31 size_state gW ?_)
    | (with_reducible refine wpList_store_blk rfl 31 (.tmp 8) (.tmp 22) rfl rfl rfl rW hl32'.out size_state ?_))
  have hgm := (rW.setRow hl32'.out).gm
  exact bodyPost_ret (v := .agg (gcs G')) (result_gm rfl _ rfl hgm Try.underlying31 size_state) rfl ⟨rfl, eW.setRow (by omega) _⟩
end Go.Proofs.Ytihegdjdgklbgaa
