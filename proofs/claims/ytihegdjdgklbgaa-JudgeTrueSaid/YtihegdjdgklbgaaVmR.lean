/- A frame's box; what a player pressed; what an operation sets its first cell to. -/
import Derived.Test.YtihegdjdgklbgaaVmG
import Derived.Test.YtihegdjdgklbgaaReg
namespace Go.Proofs.Ytihegdjdgklbgaa
set_option maxRecDepth 100000
open Go.RowKit
set_option linter.unusedVariables false

/-- A frame's box. -/
def Rn (w : World) (R : Nat) (t : List UInt8) (A : Option Addr) (n c : Nat) (M : Value) (frame : Int) (Pa : Option Addr) (pn pc : Nat) (k : Nat) : Prop :=
  w.cell? ⟨R, 0, none⟩ = some (.string (bs t)) ∧ w.cell? ⟨R, 1, none⟩ = some (.slice A n c) ∧ w.cell? ⟨R, 2, none⟩ = some M ∧ w.cell? ⟨R, 3, none⟩ = some (.int .i64 frame) ∧
    w.cell? ⟨R, 4, none⟩ = some (.slice Pa pn pc) ∧ w.cell? ⟨R, 5, none⟩ = some (.int .i64 (k : Nat)) ∧ w.frozen? ⟨R, 5, none⟩ = false

theorem in_is (w : World) (R : Nat) (Pa : Option Addr) (pn pc : Nat) (press : List UInt8) (hr : w.cell? ⟨R, 4, none⟩ = some (.slice Pa pn pc)) (hp : Rb w Pa pn pc press) (who : Int) (ho : ok32 who) :
    Calls Try.prog 59 #[.pointer (some ⟨R, 0, none⟩), .int .i32 who] w fun e w' => e = .returned (.int .i32 (inN press who)) ∧ w' = w := by
  have hmx := hp.max
  unfold maxLen at hmx
  unfold ok32 at ho
  by_cases h0 : who < 0
  · have hv : inN press who = 0 := if_pos h0
    rw [hv]
    clear hv
    go_enter Try.func59, Try.ntmps59
    go_wp2_with fail
    go_ret
    exact ⟨rfl, rfl⟩
  have hn := hp.len
  subst hn
  by_cases h1 : who.toNat < press.length
  · obtain ⟨pb, po, rfl, hc⟩ := hp.at_ h1
    have hv : inN press who = (press[who.toNat].toNat : Nat) := by
      unfold inN bt
      rw [if_neg h0, List.getD_eq_getElem?_getD, List.getElem?_eq_getElem h1]; rfl
    have hw : who < press.length := by omega
    rw [hv]
    clear hv
    generalize press[who.toNat] = u at *
    have hu := u.toNat_lt
    generalize u.toNat = v at *
    go_enter Try.func59, Try.ntmps59
    go_wp2_with fail
    go_ret
    exact ⟨rfl, rfl⟩
  · have hv : inN press who = 0 := by
      unfold inN bt
      rw [if_neg h0, List.getD_eq_getElem?_getD, List.getElem?_eq_none (by omega)]; rfl
    have hw : (press.length : Int) ≤ who := by omega
    rw [hv]
    clear hv
    go_enter Try.func59, Try.ntmps59
    go_wp2_with fail
    go_ret
    exact ⟨rfl, rfl⟩

set_option maxRecDepth 100000 in
set_option maxHeartbeats 1000000 in
theorem value_mov (w : World) (R b T : Nat) {G S : FuncId} (t : List UInt8) (A : Option Addr) (n c : Nat) (frame : Int) (Pa : Option Addr) (pn pc k : Nat) (press : List UInt8) (g : List Int)
    (hM : MemI T b G S) (hr : Rn w R t A n c (.iface T (.pointer (some ⟨b, 0, none⟩))) frame Pa pn pc k) (hg : Gm w b g) (hok : okG g) (x y z : Int) (y0 : 0 ≤ y) (y1 : y ≤ 31) :
    Calls Try.prog 56 #[.pointer (some ⟨R, 0, none⟩), opAgg (2, x, y, z)] w fun e w' => e = .returned (.int .i32 (valN t press frame g (2, x, y, z))) ∧ Ext w w' := by
  have hv : valN t press frame g (2, x, y, z) = getN g y := rfl
  rw [hv]
  clear hv
  unfold opAgg
  have e0 := Ext.alloc w (.cells #[.int .i64 2, .int .i64 x, .int .i64 y, .int .i64 z] 46)
  obtain ⟨r0, r1, r2, r3, r4, r5, r6⟩ := hr
  have r0 := e0.cell r0
  have r2 := e0.cell r2
  have r3 := e0.cell r3
  have r4 := e0.cell r4
  have hg := hg.ext e0
  have hm := hM.gm
  have he := hM.ge
  go_enter Try.func56, Try.ntmps56
  go_wp2_with fail
  generalize hW : World.alloc w _ = W at *
  have y0c : W.cell? ⟨w.heap.size, 0, none⟩ = some (.int .i64 2) := by subst hW; go_simp
  have y2 : W.cell? ⟨w.heap.size, 2, none⟩ = some (.int .i64 y) := by subst hW; go_simp
  have y3 : W.cell? ⟨w.heap.size, 3, none⟩ = some (.int .i64 z) := by subst hW; go_simp
  clear hW
  apply wp_region_lex (R := Ext) (by kernel_rfl) (by kernel_rfl) Ext.refl (fun _ _ _ => Ext.trans) (Ext.drew _)
  repeat
    apply lex_ex Ext.refl
    · rfl
    · intro W' hR hΦ
      have d0 := hR.cell r0
      have d1 := hR.cell r2
      have d2 := hR.cell r3
      have d3 := hR.cell y0c
      have d4 := hR.cell y2
      have d5 := hR.cell y3
      go_simp
      first | done | with_reducible rfl
    simp only [Act.put, List.setIfInBounds_toArray, List.set_cons_zero, List.set_cons_succ]
  apply lex_callx
  · rfl
  · intro W'
    go_simp
    exact ⟨rfl, rfl⟩
  · intro W' hR hΦ
    refine (hM.gc _ g y (hg.ext hR) y0 y1).mono ?_
    rintro e w' ⟨rfl, rfl⟩
    exact ⟨rfl, Ext.refl _⟩
  simp only [Act.put, List.setIfInBounds_toArray, List.set_cons_zero, List.set_cons_succ]
  repeat
    apply lex_ex Ext.refl
    · rfl
    · intro W' hR hΦ
      have d0 := hR.cell r0
      have d1 := hR.cell r2
      have d2 := hR.cell r3
      have d3 := hR.cell y0c
      have d4 := hR.cell y2
      have d5 := hR.cell y3
      go_simp
      first | done | with_reducible rfl
    simp only [Act.put, List.setIfInBounds_toArray, List.set_cons_zero, List.set_cons_succ]
  refine lex_nil ?_
  intro W1 hR1 hΦ
  clear hΦ
  go_wp2_with fail
  go_ret
  exact ⟨rfl, e0.trans hR1⟩
set_option maxRecDepth 100000 in
set_option maxHeartbeats 1000000 in
theorem value_in (w : World) (R b T : Nat) {G S : FuncId} (t : List UInt8) (A : Option Addr) (n c : Nat) (frame : Int) (Pa : Option Addr) (pn pc k : Nat) (press : List UInt8) (g : List Int)
    (hM : MemI T b G S) (hr : Rn w R t A n c (.iface T (.pointer (some ⟨b, 0, none⟩))) frame Pa pn pc k) (hg : Gm w b g) (hok : okG g) (x y z : Int) (y0 : 0 ≤ y) (y1 : y ≤ 31) (hp : Rb w Pa pn pc press) :
    Calls Try.prog 56 #[.pointer (some ⟨R, 0, none⟩), opAgg (11, x, y, z)] w fun e w' => e = .returned (.int .i32 (valN t press frame g (11, x, y, z))) ∧ Ext w w' := by
  have hv : valN t press frame g (11, x, y, z) = inN press (getN g y) := rfl
  rw [hv]
  clear hv
  have hyk := getN_ok hok y
  have hp := hp.ext (Ext.alloc w (.cells #[.int .i64 11, .int .i64 x, .int .i64 y, .int .i64 z] 46))
  unfold opAgg
  have e0 := Ext.alloc w (.cells #[.int .i64 11, .int .i64 x, .int .i64 y, .int .i64 z] 46)
  obtain ⟨r0, r1, r2, r3, r4, r5, r6⟩ := hr
  have r0 := e0.cell r0
  have r2 := e0.cell r2
  have r3 := e0.cell r3
  have r4 := e0.cell r4
  have hg := hg.ext e0
  have hm := hM.gm
  have he := hM.ge
  go_enter Try.func56, Try.ntmps56
  go_wp2_with fail
  generalize hW : World.alloc w _ = W at *
  have y0c : W.cell? ⟨w.heap.size, 0, none⟩ = some (.int .i64 11) := by subst hW; go_simp
  have y2 : W.cell? ⟨w.heap.size, 2, none⟩ = some (.int .i64 y) := by subst hW; go_simp
  have y3 : W.cell? ⟨w.heap.size, 3, none⟩ = some (.int .i64 z) := by subst hW; go_simp
  clear hW
  apply wp_region_lex (R := Ext) (by kernel_rfl) (by kernel_rfl) Ext.refl (fun _ _ _ => Ext.trans) (Ext.drew _)
  repeat
    apply lex_ex Ext.refl
    · rfl
    · intro W' hR hΦ
      have d0 := hR.cell r0
      have d1 := hR.cell r2
      have d2 := hR.cell r3
      have d3 := hR.cell y0c
      have d4 := hR.cell y2
      have d5 := hR.cell y3
      go_simp
      first | done | with_reducible rfl
    simp only [Act.put, List.setIfInBounds_toArray, List.set_cons_zero, List.set_cons_succ]
  apply lex_callx
  · rfl
  · intro W'
    go_simp
    exact ⟨rfl, rfl⟩
  · intro W' hR hΦ
    refine (hM.gc _ g y (hg.ext hR) y0 y1).mono ?_
    rintro e w' ⟨rfl, rfl⟩
    exact ⟨rfl, Ext.refl _⟩
  simp only [Act.put, List.setIfInBounds_toArray, List.set_cons_zero, List.set_cons_succ]
  repeat
    apply lex_ex Ext.refl
    · rfl
    · intro W' hR hΦ
      have d0 := hR.cell r0
      have d1 := hR.cell r2
      have d2 := hR.cell r3
      have d3 := hR.cell y0c
      have d4 := hR.cell y2
      have d5 := hR.cell y3
      go_simp
      first | done | with_reducible rfl
    simp only [Act.put, List.setIfInBounds_toArray, List.set_cons_zero, List.set_cons_succ]
  apply lex_callx
  · rfl
  · intro W'
    go_simp
    exact ⟨rfl, rfl⟩
  · intro W' hR hΦ
    refine (in_is _ R Pa pn pc press (hR.cell r4) (hp.ext hR) _ hyk).mono ?_
    rintro e w' ⟨rfl, rfl⟩
    exact ⟨rfl, Ext.refl _⟩
  simp only [Act.put, List.setIfInBounds_toArray, List.set_cons_zero, List.set_cons_succ]
  repeat
    apply lex_ex Ext.refl
    · rfl
    · intro W' hR hΦ
      have d0 := hR.cell r0
      have d1 := hR.cell r2
      have d2 := hR.cell r3
      have d3 := hR.cell y0c
      have d4 := hR.cell y2
      have d5 := hR.cell y3
      go_simp
      first | done | with_reducible rfl
    simp only [Act.put, List.setIfInBounds_toArray, List.set_cons_zero, List.set_cons_succ]
  refine lex_nil ?_
  intro W1 hR1 hΦ
  clear hΦ
  go_wp2_with fail
  go_ret
  exact ⟨rfl, e0.trans hR1⟩
set_option maxRecDepth 100000 in
set_option maxHeartbeats 1000000 in
theorem value_load (w : World) (R b T : Nat) {G S : FuncId} (t : List UInt8) (A : Option Addr) (n c : Nat) (frame : Int) (Pa : Option Addr) (pn pc k : Nat) (press : List UInt8) (g : List Int)
    (hM : MemI T b G S) (hr : Rn w R t A n c (.iface T (.pointer (some ⟨b, 0, none⟩))) frame Pa pn pc k) (hg : Gm w b g) (hok : okG g) (x y z : Int) (y0 : 0 ≤ y) (y1 : y ≤ 31) :
    Calls Try.prog 56 #[.pointer (some ⟨R, 0, none⟩), opAgg (12, x, y, z)] w fun e w' => e = .returned (.int .i32 (valN t press frame g (12, x, y, z))) ∧ Ext w w' := by
  have hv : valN t press frame g (12, x, y, z) = getN g (remN (getN g y) : Nat) := rfl
  rw [hv]
  clear hv
  have hyk := getN_ok hok y
  have hlt := remN_lt (getN g y)
  unfold opAgg
  have e0 := Ext.alloc w (.cells #[.int .i64 12, .int .i64 x, .int .i64 y, .int .i64 z] 46)
  obtain ⟨r0, r1, r2, r3, r4, r5, r6⟩ := hr
  have r0 := e0.cell r0
  have r2 := e0.cell r2
  have r3 := e0.cell r3
  have r4 := e0.cell r4
  have hg := hg.ext e0
  have hm := hM.gm
  have he := hM.ge
  go_enter Try.func56, Try.ntmps56
  go_wp2_with fail
  generalize hW : World.alloc w _ = W at *
  have y0c : W.cell? ⟨w.heap.size, 0, none⟩ = some (.int .i64 12) := by subst hW; go_simp
  have y2 : W.cell? ⟨w.heap.size, 2, none⟩ = some (.int .i64 y) := by subst hW; go_simp
  have y3 : W.cell? ⟨w.heap.size, 3, none⟩ = some (.int .i64 z) := by subst hW; go_simp
  clear hW
  apply wp_region_lex (R := Ext) (by kernel_rfl) (by kernel_rfl) Ext.refl (fun _ _ _ => Ext.trans) (Ext.drew _)
  repeat
    apply lex_ex Ext.refl
    · rfl
    · intro W' hR hΦ
      have d0 := hR.cell r0
      have d1 := hR.cell r2
      have d2 := hR.cell r3
      have d3 := hR.cell y0c
      have d4 := hR.cell y2
      have d5 := hR.cell y3
      go_simp
      first | done | with_reducible rfl
    simp only [Act.put, List.setIfInBounds_toArray, List.set_cons_zero, List.set_cons_succ]
  apply lex_callx
  · rfl
  · intro W'
    go_simp
    exact ⟨rfl, rfl⟩
  · intro W' hR hΦ
    refine (hM.gc _ g y (hg.ext hR) y0 y1).mono ?_
    rintro e w' ⟨rfl, rfl⟩
    exact ⟨rfl, Ext.refl _⟩
  simp only [Act.put, List.setIfInBounds_toArray, List.set_cons_zero, List.set_cons_succ]
  repeat
    apply lex_ex Ext.refl
    · rfl
    · intro W' hR hΦ
      have d0 := hR.cell r0
      have d1 := hR.cell r2
      have d2 := hR.cell r3
      have d3 := hR.cell y0c
      have d4 := hR.cell y2
      have d5 := hR.cell y3
      go_simp
      first | done | with_reducible rfl
    simp only [Act.put, List.setIfInBounds_toArray, List.set_cons_zero, List.set_cons_succ]
  apply lex_callx
  · rfl
  · intro W'
    go_simp
    exact ⟨rfl, rfl⟩
  · intro W' hR hΦ
    refine (mod_is _ _ hyk).mono ?_
    rintro e w' ⟨rfl, rfl⟩
    exact ⟨rfl, Ext.refl _⟩
  simp only [Act.put, List.setIfInBounds_toArray, List.set_cons_zero, List.set_cons_succ]
  repeat
    apply lex_ex Ext.refl
    · rfl
    · intro W' hR hΦ
      have d0 := hR.cell r0
      have d1 := hR.cell r2
      have d2 := hR.cell r3
      have d3 := hR.cell y0c
      have d4 := hR.cell y2
      have d5 := hR.cell y3
      go_simp
      first | done | with_reducible rfl
    simp only [Act.put, List.setIfInBounds_toArray, List.set_cons_zero, List.set_cons_succ]
  apply lex_callx
  · rfl
  · intro W'
    go_simp
    exact ⟨rfl, rfl⟩
  · intro W' hR hΦ
    refine (hM.gc _ g _ (hg.ext hR) (by omega) (by omega)).mono ?_
    rintro e w' ⟨rfl, rfl⟩
    exact ⟨rfl, Ext.refl _⟩
  simp only [Act.put, List.setIfInBounds_toArray, List.set_cons_zero, List.set_cons_succ]
  repeat
    apply lex_ex Ext.refl
    · rfl
    · intro W' hR hΦ
      have d0 := hR.cell r0
      have d1 := hR.cell r2
      have d2 := hR.cell r3
      have d3 := hR.cell y0c
      have d4 := hR.cell y2
      have d5 := hR.cell y3
      go_simp
      first | done | with_reducible rfl
    simp only [Act.put, List.setIfInBounds_toArray, List.set_cons_zero, List.set_cons_succ]
  refine lex_nil ?_
  intro W1 hR1 hΦ
  clear hΦ
  go_wp2_with fail
  go_ret
  exact ⟨rfl, e0.trans hR1⟩
set_option maxRecDepth 100000 in
set_option maxHeartbeats 1000000 in
theorem value_rune (w : World) (R b T : Nat) {G S : FuncId} (t : List UInt8) (A : Option Addr) (n c : Nat) (frame : Int) (Pa : Option Addr) (pn pc k : Nat) (press : List UInt8) (g : List Int)
    (hM : MemI T b G S) (hr : Rn w R t A n c (.iface T (.pointer (some ⟨b, 0, none⟩))) frame Pa pn pc k) (hg : Gm w b g) (hok : okG g) (x y z : Int) (y0 : 0 ≤ y) (y1 : y ≤ 31) (ht : t.length ≤ 1099511627776) :
    Calls Try.prog 56 #[.pointer (some ⟨R, 0, none⟩), opAgg (14, x, y, z)] w fun e w' => e = .returned (.int .i32 (valN t press frame g (14, x, y, z))) ∧ Ext w w' := by
  have hv : valN t press frame g (14, x, y, z) = ((atL t (getN g y) : Nat) : Int) := rfl
  rw [hv]
  clear hv
  have hyk := getN_ok hok y
  unfold ok32 at hyk
  have hwr : IntKind.i64.wrap (getN g y) = getN g y := IntWalk.i64_in _ (by omega)
  unfold opAgg
  have e0 := Ext.alloc w (.cells #[.int .i64 14, .int .i64 x, .int .i64 y, .int .i64 z] 46)
  obtain ⟨r0, r1, r2, r3, r4, r5, r6⟩ := hr
  have r0 := e0.cell r0
  have r2 := e0.cell r2
  have r3 := e0.cell r3
  have r4 := e0.cell r4
  have hg := hg.ext e0
  have hm := hM.gm
  have he := hM.ge
  go_enter Try.func56, Try.ntmps56
  go_wp2_with fail
  generalize hW : World.alloc w _ = W at *
  have y0c : W.cell? ⟨w.heap.size, 0, none⟩ = some (.int .i64 14) := by subst hW; go_simp
  have y2 : W.cell? ⟨w.heap.size, 2, none⟩ = some (.int .i64 y) := by subst hW; go_simp
  have y3 : W.cell? ⟨w.heap.size, 3, none⟩ = some (.int .i64 z) := by subst hW; go_simp
  clear hW
  apply wp_region_lex (R := Ext) (by kernel_rfl) (by kernel_rfl) Ext.refl (fun _ _ _ => Ext.trans) (Ext.drew _)
  repeat
    apply lex_ex Ext.refl
    · rfl
    · intro W' hR hΦ
      have d0 := hR.cell r0
      have d1 := hR.cell r2
      have d2 := hR.cell r3
      have d3 := hR.cell y0c
      have d4 := hR.cell y2
      have d5 := hR.cell y3
      go_simp
      first | done | with_reducible rfl
    simp only [Act.put, List.setIfInBounds_toArray, List.set_cons_zero, List.set_cons_succ]
  apply lex_callx
  · rfl
  · intro W'
    go_simp
    exact ⟨rfl, rfl⟩
  · intro W' hR hΦ
    refine (hM.gc _ g y (hg.ext hR) y0 y1).mono ?_
    rintro e w' ⟨rfl, rfl⟩
    exact ⟨rfl, Ext.refl _⟩
  simp only [Act.put, List.setIfInBounds_toArray, List.set_cons_zero, List.set_cons_succ]
  repeat
    apply lex_ex Ext.refl
    · rfl
    · intro W' hR hΦ
      have d0 := hR.cell r0
      have d1 := hR.cell r2
      have d2 := hR.cell r3
      have d3 := hR.cell y0c
      have d4 := hR.cell y2
      have d5 := hR.cell y3
      go_simp
      first | done | with_reducible rfl
    simp only [Act.put, List.setIfInBounds_toArray, List.set_cons_zero, List.set_cons_succ]
  apply lex_callx
  · rfl
  · intro W'
    go_simp
    exact ⟨rfl, rfl⟩
  · intro W' hR hΦ
    refine (at_any _ t ht _ (by omega) (by omega)).mono ?_
    rintro e w' ⟨rfl, h9⟩
    exact ⟨rfl, h9⟩
  simp only [Act.put, List.setIfInBounds_toArray, List.set_cons_zero, List.set_cons_succ]
  repeat
    apply lex_ex Ext.refl
    · rfl
    · intro W' hR hΦ
      have d0 := hR.cell r0
      have d1 := hR.cell r2
      have d2 := hR.cell r3
      have d3 := hR.cell y0c
      have d4 := hR.cell y2
      have d5 := hR.cell y3
      go_simp
      first | done | with_reducible rfl
    simp only [Act.put, List.setIfInBounds_toArray, List.set_cons_zero, List.set_cons_succ]
  refine lex_nil ?_
  intro W1 hR1 hΦ
  clear hΦ
  go_wp2_with fail
  go_ret
  exact ⟨rfl, e0.trans hR1⟩
set_option maxRecDepth 100000 in
set_option maxHeartbeats 1000000 in
theorem value_set (w : World) (R b T : Nat) {G S : FuncId} (t : List UInt8) (A : Option Addr) (n c : Nat) (frame : Int) (Pa : Option Addr) (pn pc k : Nat) (press : List UInt8) (g : List Int)
    (hM : MemI T b G S) (hr : Rn w R t A n c (.iface T (.pointer (some ⟨b, 0, none⟩))) frame Pa pn pc k) (hg : Gm w b g) (x y z : Int)  :
    Calls Try.prog 56 #[.pointer (some ⟨R, 0, none⟩), opAgg (1, x, y, z)] w fun e w' => e = .returned (.int .i32 (valN t press frame g (1, x, y, z))) ∧ Ext w w' := by
  have hv : valN t press frame g (1, x, y, z) = w32 y := rfl
  rw [hv]
  clear hv
  unfold opAgg
  have e0 := Ext.alloc w (.cells #[.int .i64 1, .int .i64 x, .int .i64 y, .int .i64 z] 46)
  obtain ⟨r0, r1, r2, r3, r4, r5, r6⟩ := hr
  have r0 := e0.cell r0
  have r2 := e0.cell r2
  have r3 := e0.cell r3
  have r4 := e0.cell r4
  have hg := hg.ext e0
  have hm := hM.gm
  have he := hM.ge
  go_enter Try.func56, Try.ntmps56
  go_wp2_with fail
  generalize hW : World.alloc w _ = W at *
  have y0c : W.cell? ⟨w.heap.size, 0, none⟩ = some (.int .i64 1) := by subst hW; go_simp
  have y2 : W.cell? ⟨w.heap.size, 2, none⟩ = some (.int .i64 y) := by subst hW; go_simp
  have y3 : W.cell? ⟨w.heap.size, 3, none⟩ = some (.int .i64 z) := by subst hW; go_simp
  clear hW
  go_ret
  exact ⟨by simp [wrap32_is], e0⟩
set_option maxRecDepth 100000 in
set_option maxHeartbeats 1000000 in
theorem value_time (w : World) (R b T : Nat) {G S : FuncId} (t : List UInt8) (A : Option Addr) (n c : Nat) (frame : Int) (Pa : Option Addr) (pn pc k : Nat) (press : List UInt8) (g : List Int)
    (hM : MemI T b G S) (hr : Rn w R t A n c (.iface T (.pointer (some ⟨b, 0, none⟩))) frame Pa pn pc k) (hg : Gm w b g) (x y z : Int)  :
    Calls Try.prog 56 #[.pointer (some ⟨R, 0, none⟩), opAgg (15, x, y, z)] w fun e w' => e = .returned (.int .i32 (valN t press frame g (15, x, y, z))) ∧ Ext w w' := by
  have hv : valN t press frame g (15, x, y, z) = w32 frame := rfl
  rw [hv]
  clear hv
  unfold opAgg
  have e0 := Ext.alloc w (.cells #[.int .i64 15, .int .i64 x, .int .i64 y, .int .i64 z] 46)
  obtain ⟨r0, r1, r2, r3, r4, r5, r6⟩ := hr
  have r0 := e0.cell r0
  have r2 := e0.cell r2
  have r3 := e0.cell r3
  have r4 := e0.cell r4
  have hg := hg.ext e0
  have hm := hM.gm
  have he := hM.ge
  go_enter Try.func56, Try.ntmps56
  go_wp2_with fail
  generalize hW : World.alloc w _ = W at *
  have y0c : W.cell? ⟨w.heap.size, 0, none⟩ = some (.int .i64 15) := by subst hW; go_simp
  have y2 : W.cell? ⟨w.heap.size, 2, none⟩ = some (.int .i64 y) := by subst hW; go_simp
  have y3 : W.cell? ⟨w.heap.size, 3, none⟩ = some (.int .i64 z) := by subst hW; go_simp
  clear hW
  go_ret
  exact ⟨by simp [wrap32_is]; unfold w32; omega, e0⟩
set_option maxRecDepth 100000 in
set_option maxHeartbeats 1000000 in
theorem value_sum (w : World) (R b T : Nat) {G S : FuncId} (t : List UInt8) (A : Option Addr) (n c : Nat) (frame : Int) (Pa : Option Addr) (pn pc k : Nat) (press : List UInt8) (g : List Int)
    (hM : MemI T b G S) (hr : Rn w R t A n c (.iface T (.pointer (some ⟨b, 0, none⟩))) frame Pa pn pc k) (hg : Gm w b g) (kc x y z : Int) (y0 : 0 ≤ y) (y1 : y ≤ 31) (z0 : 0 ≤ z) (z1 : z ≤ 31) (k0 : 3 ≤ kc) (k1 : kc ≤ 8) :
    Calls Try.prog 56 #[.pointer (some ⟨R, 0, none⟩), opAgg (kc, x, y, z)] w fun e w' => e = .returned (.int .i32 (valN t press frame g (kc, x, y, z))) ∧ Ext w w' := by
  have hv : valN t press frame g (kc, x, y, z) = sumN kc (getN g y) (getN g z) := by unfold valN; rw [if_neg (by omega), if_neg (by omega), if_neg (by omega), if_neg (by omega), if_neg (by omega), if_neg (by omega)]
  rw [hv]
  clear hv
  have n1 : (kc == 1) = false := by rw [beq_eq_false_iff_ne]; omega
  have n2 : (kc == 2) = false := by rw [beq_eq_false_iff_ne]; omega
  have n11 : (kc == 11) = false := by rw [beq_eq_false_iff_ne]; omega
  have n12 : (kc == 12) = false := by rw [beq_eq_false_iff_ne]; omega
  have n14 : (kc == 14) = false := by rw [beq_eq_false_iff_ne]; omega
  have n15 : (kc == 15) = false := by rw [beq_eq_false_iff_ne]; omega
  unfold opAgg
  have e0 := Ext.alloc w (.cells #[.int .i64 kc, .int .i64 x, .int .i64 y, .int .i64 z] 46)
  obtain ⟨r0, r1, r2, r3, r4, r5, r6⟩ := hr
  have r0 := e0.cell r0
  have r2 := e0.cell r2
  have r3 := e0.cell r3
  have r4 := e0.cell r4
  have hg := hg.ext e0
  have hm := hM.gm
  have he := hM.ge
  go_enter Try.func56, Try.ntmps56
  go_wp2_with fail
  generalize hW : World.alloc w _ = W at *
  have y0c : W.cell? ⟨w.heap.size, 0, none⟩ = some (.int .i64 kc) := by subst hW; go_simp
  have y2 : W.cell? ⟨w.heap.size, 2, none⟩ = some (.int .i64 y) := by subst hW; go_simp
  have y3 : W.cell? ⟨w.heap.size, 3, none⟩ = some (.int .i64 z) := by subst hW; go_simp
  clear hW
  apply wp_region_lex (R := Ext) (by kernel_rfl) (by kernel_rfl) Ext.refl (fun _ _ _ => Ext.trans) (Ext.drew _)
  repeat
    apply lex_ex Ext.refl
    · rfl
    · intro W' hR hΦ
      have d0 := hR.cell r0
      have d1 := hR.cell r2
      have d2 := hR.cell r3
      have d3 := hR.cell y0c
      have d4 := hR.cell y2
      have d5 := hR.cell y3
      go_simp
      first | done | with_reducible rfl
    simp only [Act.put, List.setIfInBounds_toArray, List.set_cons_zero, List.set_cons_succ]
  apply lex_callx
  · rfl
  · intro W'
    go_simp
    exact ⟨rfl, rfl⟩
  · intro W' hR hΦ
    refine (hM.gc _ g y (hg.ext hR) y0 y1).mono ?_
    rintro e w' ⟨rfl, rfl⟩
    exact ⟨rfl, Ext.refl _⟩
  simp only [Act.put, List.setIfInBounds_toArray, List.set_cons_zero, List.set_cons_succ]
  repeat
    apply lex_ex Ext.refl
    · rfl
    · intro W' hR hΦ
      have d0 := hR.cell r0
      have d1 := hR.cell r2
      have d2 := hR.cell r3
      have d3 := hR.cell y0c
      have d4 := hR.cell y2
      have d5 := hR.cell y3
      go_simp
      first | done | with_reducible rfl
    simp only [Act.put, List.setIfInBounds_toArray, List.set_cons_zero, List.set_cons_succ]
  refine lex_nil ?_
  intro W1 hR1 hΦ
  clear hΦ
  have r0 := hR1.cell r0
  have r2 := hR1.cell r2
  have r3 := hR1.cell r3
  have y2 := hR1.cell y2
  have y0c := hR1.cell y0c
  have y3 := hR1.cell y3
  have hg := hg.ext hR1
  go_wp2_with fail
  apply wp_region_lex (R := Ext) (by kernel_rfl) (by kernel_rfl) Ext.refl (fun _ _ _ => Ext.trans) (Ext.drew _)
  repeat
    apply lex_ex Ext.refl
    · rfl
    · intro W' hR hΦ
      have d0 := hR.cell r0
      have d1 := hR.cell r2
      have d2 := hR.cell r3
      have d3 := hR.cell y0c
      have d4 := hR.cell y2
      have d5 := hR.cell y3
      go_simp
      first | done | with_reducible rfl
    simp only [Act.put, List.setIfInBounds_toArray, List.set_cons_zero, List.set_cons_succ]
  apply lex_callx
  · rfl
  · intro W'
    go_simp
    exact ⟨rfl, rfl⟩
  · intro W' hR hΦ
    refine (hM.gc _ g z (hg.ext hR) z0 z1).mono ?_
    rintro e w' ⟨rfl, rfl⟩
    exact ⟨rfl, Ext.refl _⟩
  simp only [Act.put, List.setIfInBounds_toArray, List.set_cons_zero, List.set_cons_succ]
  repeat
    apply lex_ex Ext.refl
    · rfl
    · intro W' hR hΦ
      have d0 := hR.cell r0
      have d1 := hR.cell r2
      have d2 := hR.cell r3
      have d3 := hR.cell y0c
      have d4 := hR.cell y2
      have d5 := hR.cell y3
      go_simp
      first | done | with_reducible rfl
    simp only [Act.put, List.setIfInBounds_toArray, List.set_cons_zero, List.set_cons_succ]
  apply lex_callx
  · rfl
  · intro W'
    go_simp
    exact ⟨rfl, rfl⟩
  · intro W' hR hΦ
    refine (sum_is _ kc _ _).mono ?_
    rintro e w' ⟨rfl, rfl⟩
    exact ⟨rfl, Ext.refl _⟩
  simp only [Act.put, List.setIfInBounds_toArray, List.set_cons_zero, List.set_cons_succ]
  repeat
    apply lex_ex Ext.refl
    · rfl
    · intro W' hR hΦ
      have d0 := hR.cell r0
      have d1 := hR.cell r2
      have d2 := hR.cell r3
      have d3 := hR.cell y0c
      have d4 := hR.cell y2
      have d5 := hR.cell y3
      go_simp
      first | done | with_reducible rfl
    simp only [Act.put, List.setIfInBounds_toArray, List.set_cons_zero, List.set_cons_succ]
  refine lex_nil ?_
  intro W2 hR2 hΦ
  clear hΦ
  go_wp2_with fail
  go_ret
  exact ⟨rfl, (e0.trans hR1).trans hR2⟩
end Go.Proofs.Ytihegdjdgklbgaa
