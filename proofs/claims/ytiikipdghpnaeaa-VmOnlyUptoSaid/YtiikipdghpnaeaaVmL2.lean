/- The walks of the laws VmPress, VmReckon. -/
import Derived.Test.YtiikipdghpnaeaaVmL1
namespace Go.Proofs.Ytiikipdghpnaeaa
open Go.RowKit
set_option linter.unusedVariables false

def two (a b : Int) : List Int := [a, b] ++ List.replicate 30 0
theorem two_ok {a b : Int} (ha : ok32 a) (hb : ok32 b) : okG (two a b) := by
  refine ⟨rfl, fun x hx => ?_⟩
  rcases List.mem_append.1 hx with h | h
  · simp only [List.mem_cons, List.not_mem_nil, or_false] at h
    rcases h with rfl | rfl <;> assumption
  · rw [List.eq_of_mem_replicate h]; simp [ok32]
theorem press_game (press : List UInt8) (who : Int) : (stepN [105, 110] press 0 [(11, 1, 0, 0)] (two who (-7))).1 = setN (two who (-7)) 1 (inN press who) := by
  rw [step_single (by decide +kernel) (by decide) (by simp [oneN])]
  simp [oneN, valN, getN, two]

set_option maxRecDepth 100000 in
set_option maxHeartbeats 2000000 in
theorem press_walk (w : World) (A : Option Addr) (n c : Nat) (l : List UInt8) (hl : Rb w A n c l) (who : Int) (h0 : -2147483648 ≤ who) (h1 : who ≤ 2147483647) : Calls Try.prog 6 #[.slice A n c, .int .i32 who] w (Yes w) := by
  have hmx := hl.max
  have hsh := fun W => short_any A n c 10 W hmx
  have hl2 : Rb w A (min n 10) c (l.take 10) := by
    have h := hl.take (Nat.min_le_left n 10)
    have e : l.take (min n 10) = l.take 10 := by rw [hl.len, List.take_eq_take_iff]; omega
    rwa [e] at h
  unfold maxLen at hmx
  have Hsh := Lib.hid hsh
  have Hmx := Lib.hid hmx
  clear hsh hl hmx
  obtain ⟨l', hl'⟩ : ∃ x, l.take 10 = x := ⟨_, rfl⟩
  rw [hl'] at hl2
  clear hl'
  obtain ⟨n', hn'⟩ : ∃ x, min n 10 = x := ⟨_, rfl⟩
  rw [hn'] at hl2 Hsh
  clear hn'
  go_enter Try.func6, Try.ntmps6
  go_wp2_with fail
  refine (begun9_any _).mono ?_
  rintro e w1 ⟨rfl, x1⟩
  go_wp2_with fail
  refine (Hsh.out _).mono ?_
  rintro e w2 ⟨rfl, rfl⟩
  have hl3 := hl2.ext x1
  go_wp2_with ((with_reducible refine wpList_load_gm rfl 31 (.tmp 7) rfl rfl Try.underlying31 size_state (g := two who (-7)) ?hg ?_); case hg => exact (Blk.new' _ _ (g := two who (-7)) rfl (by simp)).gm)
  generalize hV : World.alloc (World.alloc (World.alloc w1 _) _) _ = V
  have eV : Ext w1 V := by subst hV; exact ((Ext.alloc _ _).trans (Ext.alloc _ _)).trans (Ext.alloc _ _)
  have lV : Ro V (some ⟨w1.heap.size, 0, none⟩) 1 1 [(11, 1, 0, 0)] := by subst hV; exact ((ro_new rfl rfl rfl (by decide)).ext (Ext.alloc _ _)).ext (Ext.alloc _ _)
  clear hV
  have hst := step_any V [105, 110] _ 1 1 [(11, 1, 0, 0)] 0 A n' c l' (two who (-7)) (by decide) lV (hl3.ext eV) (two_ok ⟨h0, h1⟩ (by simp [ok32]))
  rw [press_game] at hst
  unfold pAgg at hst
  have Hst := Lib.hid hst
  have Hg : Hid ((setN (two who (-7)) 1 (inN l' who)).length = 32) := Lib.hid (by rw [setN_len]; rfl)
  have Hc : Hid (getN (setN (two who (-7)) 1 (inN l' who)) ((1 : Nat) : Int) = inN l' who) := Lib.hid (getN_set rfl (by decide) (by decide) _)
  have Hc0 : Hid (getN (setN (two who (-7)) 1 (inN l' who)) ((0 : Nat) : Int) = who) := Lib.hid (by rw [getN_set_ne (by decide) (by decide) (by decide)]; rfl)
  clear hst
  generalize setN (two who (-7)) 1 (inN l' who) = G at *
  refine Calls.mono Hst.out ?_
  rintro e w2 ⟨rfl, e2⟩
  have hl4 := (hl3.ext eV).ext e2
  have hmx := hl4.max
  unfold maxLen at hmx
  have hn := hl4.len
  have Hn := Lib.hid hn
  clear hn hl2 hl3 Hsh Hmx Hst lV
  by_cases hneg : who < 0
  · have hv : inN l' who = 0 := if_pos hneg
    rw [hv] at Hc
    have hd : decide (0 ≤ who) = false := decide_eq_false (by omega)
    clear hv
    go_wp2_with ((with_reducible refine wpList_put_new _ rfl 31 (.tmp 8) (.tmp 24) rfl rfl rfl Hg.out size_state ?_); intro W2 b2 x2 s2; have f1 := b2.gm.cell_ 1 (by decide) Hc.out; have f0 := b2.gm.cell_ 0 (by decide) Hc0.out; have xW := ((x1.trans eV).trans e2).trans x2; clear b2 x2 s2)
    go_ret
    exact ⟨rfl, xW⟩
  obtain ⟨m, rfl⟩ := Int.eq_ofNat_of_zero_le (show 0 ≤ who by omega)
  by_cases hlt : m < l'.length
  · have hv : inN l' (m : Nat) = (l'[m].toNat : Nat) := by
      unfold inN bt
      rw [if_neg (by omega), Int.toNat_natCast, List.getD_eq_getElem?_getD, List.getElem?_eq_getElem hlt]; rfl
    rw [hv] at Hc
    have hmn : m < n' := by have := Hn.out; omega
    have hd : decide (m < n') = true := decide_eq_true hmn
    clear hv
    obtain ⟨pb, po, rfl, hcell⟩ := hl4.at_ hlt
    have hub := l'[m].toNat_lt
    have hpb := World.block_lt_of_cell? w2 _ hcell
    generalize l'[m].toNat = u at *
    go_wp2_with ((with_reducible refine wpList_put_new _ rfl 31 (.tmp 8) (.tmp 24) rfl rfl rfl Hg.out size_state ?_); intro W2 b2 x2 s2; have f1 := b2.gm.cell_ 1 (by decide) Hc.out; have f0 := b2.gm.cell_ 0 (by decide) Hc0.out; have hcell := x2.cell hcell; have xW := ((x1.trans eV).trans e2).trans x2; clear b2 x2 s2)
    go_ret
    exact ⟨rfl, xW⟩
  · have hv : inN l' (m : Nat) = 0 := by
      unfold inN bt
      rw [if_neg (by omega), Int.toNat_natCast, List.getD_eq_getElem?_getD, List.getElem?_eq_none (by omega)]; rfl
    rw [hv] at Hc
    have hmn : ¬ m < n' := by have := Hn.out; omega
    have hd : decide (m < n') = false := decide_eq_false hmn
    clear hv
    go_wp2_with ((with_reducible refine wpList_put_new _ rfl 31 (.tmp 8) (.tmp 24) rfl rfl rfl Hg.out size_state ?_); intro W2 b2 x2 s2; have f1 := b2.gm.cell_ 1 (by decide) Hc.out; have f0 := b2.gm.cell_ 0 (by decide) Hc0.out; have xW := ((x1.trans eV).trans e2).trans x2; clear b2 x2 s2)
    go_ret
    exact ⟨rfl, xW⟩
end Go.Proofs.Ytiikipdghpnaeaa
