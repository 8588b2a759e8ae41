/- What a frame leaves; one operation of a frame. -/
import Derived.Test.YtihegdjdgklbgaaVmR
namespace Go.Proofs.Ytihegdjdgklbgaa
set_option maxRecDepth 100000
open Go.RowKit
set_option linter.unusedVariables false

/-- Nothing has turned but block R, and block b's first 32 cells. -/
structure Chg (w w' : World) (R b : Nat) : Prop where
  os : w'.os = w.os
  tape : w'.tape = w.tape
  output : w'.output = w.output
  size : w.heap.size ≤ w'.heap.size
  block : ∀ k, k < w.heap.size → k ≠ R → k ≠ b → w'.heap[k]? = w.heap[k]?
  rest : b < w.heap.size → ∀ j, 32 ≤ j → w'.cell? ⟨b, j, none⟩ = w.cell? ⟨b, j, none⟩ ∧ w'.frozen? ⟨b, j, none⟩ = w.frozen? ⟨b, j, none⟩
section
variable {w w' a c : World} {R b : Nat}
theorem Chg.refl (w : World) (R b : Nat) : Chg w w R b := ⟨rfl, rfl, rfl, Nat.le_refl _, fun _ _ _ _ => rfl, fun _ _ _ => ⟨rfl, rfl⟩⟩
theorem Chg.trans (h : Chg w a R b) (k : Chg a c R b) : Chg w c R b :=
  ⟨k.os.trans h.os, k.tape.trans h.tape, k.output.trans h.output, Nat.le_trans h.size k.size, fun i hi h1 h2 => (k.block i (Nat.lt_of_lt_of_le hi h.size) h1 h2).trans (h.block i hi h1 h2),
    fun hb j hj => ⟨(k.rest (Nat.lt_of_lt_of_le hb h.size) j hj).1.trans (h.rest hb j hj).1, (k.rest (Nat.lt_of_lt_of_le hb h.size) j hj).2.trans (h.rest hb j hj).2⟩⟩
theorem Chg.of_ext (h : Ext w w') (R b : Nat) : Chg w w' R b :=
  ⟨h.os, h.tape, h.output, h.size, fun k hk _ _ => h.block k hk, fun hb j _ => ⟨Below.cell h (p := ⟨b, j, none⟩) hb, h.frozen (p := ⟨b, j, none⟩) hb⟩⟩
theorem Chg.setR (w : World) (R b o : Nat) (hne : R ≠ b) (u : Value) : Chg w (w.setCell ⟨R, o, none⟩ u) R b :=
  ⟨rfl, rfl, rfl, by simp [World.setCell], fun k hk h1 _ => Below.heap_setCell w _ u k h1, fun hb j _ => by
    have e := Below.heap_setCell w ⟨R, o, none⟩ u b (fun e => hne e.symm)
    exact ⟨World.cell?_of_block (a := ⟨b, j, none⟩) e, by simp only [World.frozen?]; rw [e]⟩⟩
theorem Chg.setG (w : World) (R b o : Nat) (ho : o < 32) (u v0 : Value) (hc : w.cell? ⟨b, o, none⟩ = some v0) (hf : w.frozen? ⟨b, o, none⟩ = false) : Chg w (w.setCell ⟨b, o, none⟩ u) R b :=
  ⟨rfl, rfl, rfl, by simp [World.setCell], fun k hk _ h2 => Below.heap_setCell w _ u k h2, fun hb j hj => by
    have hne : (⟨b, j, none⟩ : Addr) ≠ ⟨b, o, none⟩ := fun e => by injection e with _ e; omega
    refine ⟨?_, ?_⟩ <;> go_simp⟩
theorem Chg.setNew (h : Chg w a R b) (hb : b < w.heap.size) {p : Addr} (hp : w.heap.size ≤ p.block) (u : Value) : Chg w (a.setCell p u) R b := by
  have hk : ∀ k, k < w.heap.size → (a.setCell p u).heap[k]? = a.heap[k]? := fun k hk => Below.heap_setCell a p u k (by omega)
  refine ⟨h.os, h.tape, h.output, by simp [World.setCell]; exact h.size, fun k hk' h1 h2 => (hk k hk').trans (h.block k hk' h1 h2), fun hb j hj => ?_⟩
  refine ⟨(World.cell?_of_block (a := ⟨b, j, none⟩) (hk b hb)).trans (h.rest hb j hj).1, Eq.trans ?_ (h.rest hb j hj).2⟩
  simp only [World.frozen?]; rw [hk b hb]
/-- What lies in another block is as it was. -/
theorem Chg.keepB (h : Chg w w' R b) {k : Nat} (hk : k < w.heap.size) (h1 : k ≠ R) (h2 : k ≠ b) : w'.heap[k]? = w.heap[k]? := h.block k hk h1 h2
end
section
variable {w w' : World} {R b : Nat} {t : List UInt8} {A : Option Addr} {n c : Nat} {M : Value} {frame : Int} {Pa : Option Addr} {pn pc k : Nat}
theorem Rn.lt (h : Rn w R t A n c M frame Pa pn pc k) : R < w.heap.size := World.block_lt_of_cell? w _ h.1
theorem Rn.of_block (h : Rn w R t A n c M frame Pa pn pc k) (e : w'.heap[R]? = w.heap[R]?) : Rn w' R t A n c M frame Pa pn pc k := by
  obtain ⟨h0, h1, h2, h3, h4, h5, h6⟩ := h
  have hc : ∀ j, w'.cell? ⟨R, j, none⟩ = w.cell? ⟨R, j, none⟩ := fun j => World.cell?_of_block (a := ⟨R, j, none⟩) e
  exact ⟨(hc 0).trans h0, (hc 1).trans h1, (hc 2).trans h2, (hc 3).trans h3, (hc 4).trans h4, (hc 5).trans h5, by simp only [World.frozen?] at h6 ⊢; rw [e]; exact h6⟩
theorem Rn.ext (h : Rn w R t A n c M frame Pa pn pc k) (e : Ext w w') : Rn w' R t A n c M frame Pa pn pc k := h.of_block (e.block R h.lt)
theorem Rn.at_ (h : Rn w R t A n c M frame Pa pn pc k) (k' : Nat) : Rn (w.setCell ⟨R, 5, none⟩ (.int .i64 (k' : Nat))) R t A n c M frame Pa pn pc k' := by
  obtain ⟨h0, h1, h2, h3, h4, h5, h6⟩ := h
  refine ⟨?_, ?_, ?_, ?_, ?_, ?_, ?_⟩ <;> go_simp
theorem Rn.setG (h : Rn w R t A n c M frame Pa pn pc k) (hne : R ≠ b) (o : Nat) (u : Value) : Rn (w.setCell ⟨b, o, none⟩ u) R t A n c M frame Pa pn pc k := h.of_block (Below.heap_setCell w _ u R hne)
theorem Gm.setR {g : List Int} (h : Gm w b g) (hne : R ≠ b) (o : Nat) (u : Value) : Gm (w.setCell ⟨R, o, none⟩ u) b g := h.of_block (Below.heap_setCell w _ u b (fun e => hne e.symm))
end
/-- Behind an operation. -/
def OneOf (w : World) (R b : Nat) (t : List UInt8) (A : Option Addr) (n c : Nat) (M : Value) (frame : Int) (Pa : Option Addr) (pn pc k : Nat) (g : List Int) (go : Bool) (e : Ending) (w' : World) : Prop :=
  e = .returned (.bool go) ∧ Rn w' R t A n c M frame Pa pn pc k ∧ Gm w' b g ∧ Chg w w' R b

set_option maxRecDepth 100000 in
set_option maxHeartbeats 2000000 in
theorem one_halt (w : World) (R b T : Nat) {G S : FuncId} (t : List UInt8) (A : Option Addr) (n c : Nat) (l : List OpT) (frame : Int) (Pa : Option Addr) (pn pc k : Nat) (press : List UInt8) (g : List Int)
    (hM : MemI T b G S) (hr : Rn w R t A n c (.iface T (.pointer (some ⟨b, 0, none⟩))) frame Pa pn pc k) (hl : Ro w A n c l) (hp : Rb w Pa pn pc press) (hg : Gm w b g) (hok : okG g) (hne : R ≠ b) (hk : k < l.length) (h64 : l.length ≤ 64) (ht : t.length ≤ 1099511627776) {xc x y z : Int} (ho : l[k] = (xc, x, y, z)) (hx : xc = 0) :
    Calls Try.prog 50 #[.pointer (some ⟨R, 0, none⟩)] w (OneOf w R b t A n c (.iface T (.pointer (some ⟨b, 0, none⟩))) frame Pa pn pc (k + 1) g false) := by
  obtain ⟨ab, ao, rfl, o0, o1, o2, o3⟩ := hl.at_ hk
  have hn := hl.len
  have hmx := hl.max
  unfold maxLen at hmx
  rw [ho] at o0 o1 o2 o3
  clear ho
  dsimp only at o0 o1 o2 o3
  obtain ⟨r0, r1, r2, r3, r4, r5, r6⟩ := id hr
  subst hx
  go_enter Try.func50, Try.ntmps50
  go_wp2_with fail
  apply wp_region_lex_tails 12 (R := Ext) (by decide) (by kernel_rfl) (by kernel_rfl) (by kernel_rfl) Ext.refl (fun _ _ _ => Ext.trans) (Ext.drew _)
  simp only [List.take_succ_cons, List.take_zero]
  repeat
    apply lex_ex Ext.refl
    · rfl
    · intro W' hR hΦ
      have d0 := hR.cell r1
      have d1 := hR.cell r5
      have d2 := hR.cell o0
      have d3 := hR.cell o1
      have d4 := hR.cell o2
      have d5 := hR.cell o3
      go_simp
      first | done | with_reducible rfl
    simp only [Act.put, List.setIfInBounds_toArray, List.set_cons_zero, List.set_cons_succ]
  apply lex_new (p := fun u W => ∃ g0, u = .pointer (some ⟨g0, 0, none⟩) ∧ w.heap.size ≤ g0 ∧ W.heap[g0]? = some (.cells #[.int .i64 0, .int .i64 0, .int .i64 0, .int .i64 0] 46 (0, 0))) (fun _ _ _ ⟨g, hv, hg, h⟩ he => ⟨g, hv, hg, (he.block g (Array.getElem?_eq_some_iff.1 h).1).trans h⟩)
  · rfl
  · intro W hR hΦ
    refine ⟨.pointer (some ⟨W.heap.size, 0, none⟩), W.alloc (.cells #[.int .i64 0, .int .i64 0, .int .i64 0, .int .i64 0] 46), ?_, Ext.alloc _ _, W.heap.size, rfl, hR.size, heap_alloc_new W _⟩
    go_simp
    first | done | rfl
  intro v2
  simp only [Act.put, List.setIfInBounds_toArray, List.set_cons_zero, List.set_cons_succ]
  refine lex_nil ?_
  intro W hR hΦ
  obtain ⟨g0, rfl, hg0, hblk⟩ := hΦ.1 rfl
  simp only [List.drop_succ_cons, List.drop_zero]
  clear hΦ r0 r1 r2 r3 r4 r5 r6 o0 o1 o2 o3
  have hRg : R ≠ g0 := by have := hr.lt; omega
  have hbg : b ≠ g0 := by have := hg.lt; omega
  have hr1 := hr.ext hR
  have hg1 := hg.ext hR
  have hp1 := hp.ext hR
  have c1 : Chg w W R b := Chg.of_ext hR R b
  obtain ⟨r0, r1, r2, r3, r4, r5, r6⟩ := id hr1
  have y0c : W.cell? ⟨g0, 0, none⟩ = some (.int .i64 0) := by rw [cell_of_row _ _ _ _ _ _ hblk]; rfl
  have y1c : W.cell? ⟨g0, 1, none⟩ = some (.int .i64 0) := by rw [cell_of_row _ _ _ _ _ _ hblk]; rfl
  have y2c : W.cell? ⟨g0, 2, none⟩ = some (.int .i64 0) := by rw [cell_of_row _ _ _ _ _ _ hblk]; rfl
  have y3c : W.cell? ⟨g0, 3, none⟩ = some (.int .i64 0) := by rw [cell_of_row _ _ _ _ _ _ hblk]; rfl
  have z0c : W.frozen? ⟨g0, 0, none⟩ = false := by simp [World.frozen?, hblk]
  have z1c : W.frozen? ⟨g0, 1, none⟩ = false := by simp [World.frozen?, hblk]
  have z2c : W.frozen? ⟨g0, 2, none⟩ = false := by simp [World.frozen?, hblk]
  have z3c : W.frozen? ⟨g0, 3, none⟩ = false := by simp [World.frozen?, hblk]
  go_wp2_with fail
  generalize hV : World.setCell (World.setCell (World.setCell (World.setCell (World.setCell W _ _) _ _) _ _) _ _) _ _ = V at *
  have rV : Rn V R t (some ⟨ab, ao, none⟩) n c (.iface T (.pointer (some ⟨b, 0, none⟩))) frame Pa pn pc (k + 1) := by subst hV; exact ((((hr1.setG hRg 0 _).setG hRg 1 _).setG hRg 2 _).setG hRg 3 _).at_ (k + 1)
  have gV : Gm V b g := by subst hV; exact ((((hg1.setR hbg.symm 0 _).setR hbg.symm 1 _).setR hbg.symm 2 _).setR hbg.symm 3 _).setR hne 5 _
  have cV : Chg w V R b := by subst hV; exact (((((c1.setNew hg.lt hg0 _).setNew hg.lt hg0 _).setNew hg.lt hg0 _).setNew hg.lt hg0 _)).trans (Chg.setR _ R b 5 hne _)
  go_ret
  exact ⟨rfl, rV, gV, cV⟩
set_option maxRecDepth 100000 in
set_option maxHeartbeats 2000000 in
theorem one_jump (w : World) (R b T : Nat) {G S : FuncId} (t : List UInt8) (A : Option Addr) (n c : Nat) (l : List OpT) (frame : Int) (Pa : Option Addr) (pn pc k : Nat) (press : List UInt8) (g : List Int)
    (hM : MemI T b G S) (hr : Rn w R t A n c (.iface T (.pointer (some ⟨b, 0, none⟩))) frame Pa pn pc k) (hl : Ro w A n c l) (hp : Rb w Pa pn pc press) (hg : Gm w b g) (hok : okG g) (hne : R ≠ b) (hk : k < l.length) (h64 : l.length ≤ 64) (ht : t.length ≤ 1099511627776) {xc x y z : Int} (ho : l[k] = (xc, x, y, z)) (hx : xc = 9) {X : Nat} (hX : x = X) :
    Calls Try.prog 50 #[.pointer (some ⟨R, 0, none⟩)] w (OneOf w R b t A n c (.iface T (.pointer (some ⟨b, 0, none⟩))) frame Pa pn pc X g true) := by
  obtain ⟨ab, ao, rfl, o0, o1, o2, o3⟩ := hl.at_ hk
  have hn := hl.len
  have hmx := hl.max
  unfold maxLen at hmx
  rw [ho] at o0 o1 o2 o3
  clear ho
  dsimp only at o0 o1 o2 o3
  obtain ⟨r0, r1, r2, r3, r4, r5, r6⟩ := id hr
  subst hx hX
  go_enter Try.func50, Try.ntmps50
  go_wp2_with fail
  apply wp_region_lex_tails 12 (R := Ext) (by decide) (by kernel_rfl) (by kernel_rfl) (by kernel_rfl) Ext.refl (fun _ _ _ => Ext.trans) (Ext.drew _)
  simp only [List.take_succ_cons, List.take_zero]
  repeat
    apply lex_ex Ext.refl
    · rfl
    · intro W' hR hΦ
      have d0 := hR.cell r1
      have d1 := hR.cell r5
      have d2 := hR.cell o0
      have d3 := hR.cell o1
      have d4 := hR.cell o2
      have d5 := hR.cell o3
      go_simp
      first | done | with_reducible rfl
    simp only [Act.put, List.setIfInBounds_toArray, List.set_cons_zero, List.set_cons_succ]
  apply lex_new (p := fun u W => ∃ g0, u = .pointer (some ⟨g0, 0, none⟩) ∧ w.heap.size ≤ g0 ∧ W.heap[g0]? = some (.cells #[.int .i64 0, .int .i64 0, .int .i64 0, .int .i64 0] 46 (0, 0))) (fun _ _ _ ⟨g, hv, hg, h⟩ he => ⟨g, hv, hg, (he.block g (Array.getElem?_eq_some_iff.1 h).1).trans h⟩)
  · rfl
  · intro W hR hΦ
    refine ⟨.pointer (some ⟨W.heap.size, 0, none⟩), W.alloc (.cells #[.int .i64 0, .int .i64 0, .int .i64 0, .int .i64 0] 46), ?_, Ext.alloc _ _, W.heap.size, rfl, hR.size, heap_alloc_new W _⟩
    go_simp
    first | done | rfl
  intro v2
  simp only [Act.put, List.setIfInBounds_toArray, List.set_cons_zero, List.set_cons_succ]
  refine lex_nil ?_
  intro W hR hΦ
  obtain ⟨g0, rfl, hg0, hblk⟩ := hΦ.1 rfl
  simp only [List.drop_succ_cons, List.drop_zero]
  clear hΦ r0 r1 r2 r3 r4 r5 r6 o0 o1 o2 o3
  have hRg : R ≠ g0 := by have := hr.lt; omega
  have hbg : b ≠ g0 := by have := hg.lt; omega
  have hr1 := hr.ext hR
  have hg1 := hg.ext hR
  have hp1 := hp.ext hR
  have c1 : Chg w W R b := Chg.of_ext hR R b
  obtain ⟨r0, r1, r2, r3, r4, r5, r6⟩ := id hr1
  have y0c : W.cell? ⟨g0, 0, none⟩ = some (.int .i64 0) := by rw [cell_of_row _ _ _ _ _ _ hblk]; rfl
  have y1c : W.cell? ⟨g0, 1, none⟩ = some (.int .i64 0) := by rw [cell_of_row _ _ _ _ _ _ hblk]; rfl
  have y2c : W.cell? ⟨g0, 2, none⟩ = some (.int .i64 0) := by rw [cell_of_row _ _ _ _ _ _ hblk]; rfl
  have y3c : W.cell? ⟨g0, 3, none⟩ = some (.int .i64 0) := by rw [cell_of_row _ _ _ _ _ _ hblk]; rfl
  have z0c : W.frozen? ⟨g0, 0, none⟩ = false := by simp [World.frozen?, hblk]
  have z1c : W.frozen? ⟨g0, 1, none⟩ = false := by simp [World.frozen?, hblk]
  have z2c : W.frozen? ⟨g0, 2, none⟩ = false := by simp [World.frozen?, hblk]
  have z3c : W.frozen? ⟨g0, 3, none⟩ = false := by simp [World.frozen?, hblk]
  go_wp2_with fail
  generalize hV : World.setCell (World.setCell (World.setCell (World.setCell (World.setCell W _ _) _ _) _ _) _ _) _ _ = V at *
  have rV : Rn V R t (some ⟨ab, ao, none⟩) n c (.iface T (.pointer (some ⟨b, 0, none⟩))) frame Pa pn pc (k + 1) := by subst hV; exact ((((hr1.setG hRg 0 _).setG hRg 1 _).setG hRg 2 _).setG hRg 3 _).at_ (k + 1)
  have gV : Gm V b g := by subst hV; exact ((((hg1.setR hbg.symm 0 _).setR hbg.symm 1 _).setR hbg.symm 2 _).setR hbg.symm 3 _).setR hne 5 _
  have cV : Chg w V R b := by subst hV; exact (((((c1.setNew hg.lt hg0 _).setNew hg.lt hg0 _).setNew hg.lt hg0 _).setNew hg.lt hg0 _)).trans (Chg.setR _ R b 5 hne _)
  go_ret
  exact ⟨rfl, rV.at_ X, gV.setR hne 5 _, cV.trans (Chg.setR V R b 5 hne _)⟩
set_option maxRecDepth 100000 in
set_option maxHeartbeats 2000000 in
theorem one_zero (w : World) (R b T : Nat) {G S : FuncId} (t : List UInt8) (A : Option Addr) (n c : Nat) (l : List OpT) (frame : Int) (Pa : Option Addr) (pn pc k : Nat) (press : List UInt8) (g : List Int)
    (hM : MemI T b G S) (hr : Rn w R t A n c (.iface T (.pointer (some ⟨b, 0, none⟩))) frame Pa pn pc k) (hl : Ro w A n c l) (hp : Rb w Pa pn pc press) (hg : Gm w b g) (hok : okG g) (hne : R ≠ b) (hk : k < l.length) (h64 : l.length ≤ 64) (ht : t.length ≤ 1099511627776) {xc x y z : Int} (ho : l[k] = (xc, x, y, z)) (hx : xc = 10) (x0 : 0 ≤ x) (x1 : x ≤ 31) {Y : Nat} (hY : y = Y) (hz : getN g x = 0) :
    Calls Try.prog 50 #[.pointer (some ⟨R, 0, none⟩)] w (OneOf w R b t A n c (.iface T (.pointer (some ⟨b, 0, none⟩))) frame Pa pn pc Y g true) := by
  obtain ⟨ab, ao, rfl, o0, o1, o2, o3⟩ := hl.at_ hk
  have hn := hl.len
  have hmx := hl.max
  unfold maxLen at hmx
  rw [ho] at o0 o1 o2 o3
  clear ho
  dsimp only at o0 o1 o2 o3
  obtain ⟨r0, r1, r2, r3, r4, r5, r6⟩ := id hr
  subst hx hY
  have hz1 : (getN g x == 0) = true := by rw [hz]; rfl
  clear hz
  have hm := hM.gm
  have he := hM.ge
  have hms := hM.sm
  have hes := hM.se
  go_enter Try.func50, Try.ntmps50
  go_wp2_with fail
  apply wp_region_lex_tails 12 (R := Ext) (by decide) (by kernel_rfl) (by kernel_rfl) (by kernel_rfl) Ext.refl (fun _ _ _ => Ext.trans) (Ext.drew _)
  simp only [List.take_succ_cons, List.take_zero]
  repeat
    apply lex_ex Ext.refl
    · rfl
    · intro W' hR hΦ
      have d0 := hR.cell r1
      have d1 := hR.cell r5
      have d2 := hR.cell o0
      have d3 := hR.cell o1
      have d4 := hR.cell o2
      have d5 := hR.cell o3
      go_simp
      first | done | with_reducible rfl
    simp only [Act.put, List.setIfInBounds_toArray, List.set_cons_zero, List.set_cons_succ]
  apply lex_new (p := fun u W => ∃ g0, u = .pointer (some ⟨g0, 0, none⟩) ∧ w.heap.size ≤ g0 ∧ W.heap[g0]? = some (.cells #[.int .i64 0, .int .i64 0, .int .i64 0, .int .i64 0] 46 (0, 0))) (fun _ _ _ ⟨g, hv, hg, h⟩ he => ⟨g, hv, hg, (he.block g (Array.getElem?_eq_some_iff.1 h).1).trans h⟩)
  · rfl
  · intro W hR hΦ
    refine ⟨.pointer (some ⟨W.heap.size, 0, none⟩), W.alloc (.cells #[.int .i64 0, .int .i64 0, .int .i64 0, .int .i64 0] 46), ?_, Ext.alloc _ _, W.heap.size, rfl, hR.size, heap_alloc_new W _⟩
    go_simp
    first | done | rfl
  intro v2
  simp only [Act.put, List.setIfInBounds_toArray, List.set_cons_zero, List.set_cons_succ]
  refine lex_nil ?_
  intro W hR hΦ
  obtain ⟨g0, rfl, hg0, hblk⟩ := hΦ.1 rfl
  simp only [List.drop_succ_cons, List.drop_zero]
  clear hΦ r0 r1 r2 r3 r4 r5 r6 o0 o1 o2 o3
  have hRg : R ≠ g0 := by have := hr.lt; omega
  have hbg : b ≠ g0 := by have := hg.lt; omega
  have hr1 := hr.ext hR
  have hg1 := hg.ext hR
  have hp1 := hp.ext hR
  have c1 : Chg w W R b := Chg.of_ext hR R b
  obtain ⟨r0, r1, r2, r3, r4, r5, r6⟩ := id hr1
  have y0c : W.cell? ⟨g0, 0, none⟩ = some (.int .i64 0) := by rw [cell_of_row _ _ _ _ _ _ hblk]; rfl
  have y1c : W.cell? ⟨g0, 1, none⟩ = some (.int .i64 0) := by rw [cell_of_row _ _ _ _ _ _ hblk]; rfl
  have y2c : W.cell? ⟨g0, 2, none⟩ = some (.int .i64 0) := by rw [cell_of_row _ _ _ _ _ _ hblk]; rfl
  have y3c : W.cell? ⟨g0, 3, none⟩ = some (.int .i64 0) := by rw [cell_of_row _ _ _ _ _ _ hblk]; rfl
  have z0c : W.frozen? ⟨g0, 0, none⟩ = false := by simp [World.frozen?, hblk]
  have z1c : W.frozen? ⟨g0, 1, none⟩ = false := by simp [World.frozen?, hblk]
  have z2c : W.frozen? ⟨g0, 2, none⟩ = false := by simp [World.frozen?, hblk]
  have z3c : W.frozen? ⟨g0, 3, none⟩ = false := by simp [World.frozen?, hblk]
  go_wp2_with fail
  generalize hV : World.setCell (World.setCell (World.setCell (World.setCell (World.setCell W _ _) _ _) _ _) _ _) _ _ = V at *
  have rV : Rn V R t (some ⟨ab, ao, none⟩) n c (.iface T (.pointer (some ⟨b, 0, none⟩))) frame Pa pn pc (k + 1) := by subst hV; exact ((((hr1.setG hRg 0 _).setG hRg 1 _).setG hRg 2 _).setG hRg 3 _).at_ (k + 1)
  have gV : Gm V b g := by subst hV; exact ((((hg1.setR hbg.symm 0 _).setR hbg.symm 1 _).setR hbg.symm 2 _).setR hbg.symm 3 _).setR hne 5 _
  have cV : Chg w V R b := by subst hV; exact (((((c1.setNew hg.lt hg0 _).setNew hg.lt hg0 _).setNew hg.lt hg0 _).setNew hg.lt hg0 _)).trans (Chg.setR _ R b 5 hne _)
  have v0 : V.cell? ⟨g0, 0, none⟩ = some (.int .i64 10) := by subst hV; go_simp
  have v1 : V.cell? ⟨g0, 1, none⟩ = some (.int .i64 x) := by subst hV; go_simp
  have v2 : V.cell? ⟨g0, 2, none⟩ = some (.int .i64 (Y : Nat)) := by subst hV; go_simp
  have v3 : V.cell? ⟨g0, 3, none⟩ = some (.int .i64 z) := by subst hV; go_simp
  clear hV r0 r1 r2 r3 r4 r5 r6 y0c y1c y2c y3c z0c z1c z2c z3c hblk hr1 hg1 c1 hR hl
  obtain ⟨r0, r1, r2, r3, r4, r5, r6⟩ := id rV
  apply wp_region_lex (R := Ext) (by kernel_rfl) (by kernel_rfl) Ext.refl (fun _ _ _ => Ext.trans) (Ext.drew _)
  repeat
    apply lex_ex Ext.refl
    · rfl
    · intro W' hR hΦ
      have d0 := hR.cell r2
      have d1 := hR.cell v0
      have d2 := hR.cell v1
      have d3 := hR.cell v2
      have d4 := hR.cell v3
      go_simp
      first | done | with_reducible rfl
    simp only [Act.put, List.setIfInBounds_toArray, List.set_cons_zero, List.set_cons_succ]
  apply lex_callx
  · rfl
  · intro W'
    go_simp
    exact ⟨rfl, rfl⟩
  · intro W' hR hΦ
    refine (hM.gc _ g x (gV.ext hR) x0 x1).mono ?_
    rintro e w' ⟨rfl, rfl⟩
    exact ⟨rfl, Ext.refl _⟩
  simp only [Act.put, List.setIfInBounds_toArray, List.set_cons_zero, List.set_cons_succ]
  repeat
    apply lex_ex Ext.refl
    · rfl
    · intro W' hR hΦ
      have d0 := hR.cell r2
      have d1 := hR.cell v0
      have d2 := hR.cell v1
      have d3 := hR.cell v2
      have d4 := hR.cell v3
      go_simp
      first | done | with_reducible rfl
    simp only [Act.put, List.setIfInBounds_toArray, List.set_cons_zero, List.set_cons_succ]
  refine lex_nil ?_
  intro W1 hR1 hΦ
  clear hΦ
  have rW := rV.ext hR1
  have gW := gV.ext hR1
  have cW := cV.trans (Chg.of_ext hR1 R b)
  have v2 := hR1.cell v2
  obtain ⟨r0, r1, r2, r3, r4, r5, r6⟩ := id rW
  go_wp2_with fail
  go_ret
  exact ⟨rfl, rW.at_ Y, gW.setR hne 5 _, cW.trans (Chg.setR _ R b 5 hne _)⟩
set_option maxRecDepth 100000 in
set_option maxHeartbeats 2000000 in
theorem one_zerono (w : World) (R b T : Nat) {G S : FuncId} (t : List UInt8) (A : Option Addr) (n c : Nat) (l : List OpT) (frame : Int) (Pa : Option Addr) (pn pc k : Nat) (press : List UInt8) (g : List Int)
    (hM : MemI T b G S) (hr : Rn w R t A n c (.iface T (.pointer (some ⟨b, 0, none⟩))) frame Pa pn pc k) (hl : Ro w A n c l) (hp : Rb w Pa pn pc press) (hg : Gm w b g) (hok : okG g) (hne : R ≠ b) (hk : k < l.length) (h64 : l.length ≤ 64) (ht : t.length ≤ 1099511627776) {xc x y z : Int} (ho : l[k] = (xc, x, y, z)) (hx : xc = 10) (x0 : 0 ≤ x) (x1 : x ≤ 31) (hz : getN g x ≠ 0) :
    Calls Try.prog 50 #[.pointer (some ⟨R, 0, none⟩)] w (OneOf w R b t A n c (.iface T (.pointer (some ⟨b, 0, none⟩))) frame Pa pn pc (k + 1) g true) := by
  obtain ⟨ab, ao, rfl, o0, o1, o2, o3⟩ := hl.at_ hk
  have hn := hl.len
  have hmx := hl.max
  unfold maxLen at hmx
  rw [ho] at o0 o1 o2 o3
  clear ho
  dsimp only at o0 o1 o2 o3
  obtain ⟨r0, r1, r2, r3, r4, r5, r6⟩ := id hr
  subst hx
  have hz1 : (getN g x == 0) = false := by rw [beq_eq_false_iff_ne]; exact hz
  clear hz
  have hm := hM.gm
  have he := hM.ge
  have hms := hM.sm
  have hes := hM.se
  go_enter Try.func50, Try.ntmps50
  go_wp2_with fail
  apply wp_region_lex_tails 12 (R := Ext) (by decide) (by kernel_rfl) (by kernel_rfl) (by kernel_rfl) Ext.refl (fun _ _ _ => Ext.trans) (Ext.drew _)
  simp only [List.take_succ_cons, List.take_zero]
  repeat
    apply lex_ex Ext.refl
    · rfl
    · intro W' hR hΦ
      have d0 := hR.cell r1
      have d1 := hR.cell r5
      have d2 := hR.cell o0
      have d3 := hR.cell o1
      have d4 := hR.cell o2
      have d5 := hR.cell o3
      go_simp
      first | done | with_reducible rfl
    simp only [Act.put, List.setIfInBounds_toArray, List.set_cons_zero, List.set_cons_succ]
  apply lex_new (p := fun u W => ∃ g0, u = .pointer (some ⟨g0, 0, none⟩) ∧ w.heap.size ≤ g0 ∧ W.heap[g0]? = some (.cells #[.int .i64 0, .int .i64 0, .int .i64 0, .int .i64 0] 46 (0, 0))) (fun _ _ _ ⟨g, hv, hg, h⟩ he => ⟨g, hv, hg, (he.block g (Array.getElem?_eq_some_iff.1 h).1).trans h⟩)
  · rfl
  · intro W hR hΦ
    refine ⟨.pointer (some ⟨W.heap.size, 0, none⟩), W.alloc (.cells #[.int .i64 0, .int .i64 0, .int .i64 0, .int .i64 0] 46), ?_, Ext.alloc _ _, W.heap.size, rfl, hR.size, heap_alloc_new W _⟩
    go_simp
    first | done | rfl
  intro v2
  simp only [Act.put, List.setIfInBounds_toArray, List.set_cons_zero, List.set_cons_succ]
  refine lex_nil ?_
  intro W hR hΦ
  obtain ⟨g0, rfl, hg0, hblk⟩ := hΦ.1 rfl
  simp only [List.drop_succ_cons, List.drop_zero]
  clear hΦ r0 r1 r2 r3 r4 r5 r6 o0 o1 o2 o3
  have hRg : R ≠ g0 := by have := hr.lt; omega
  have hbg : b ≠ g0 := by have := hg.lt; omega
  have hr1 := hr.ext hR
  have hg1 := hg.ext hR
  have hp1 := hp.ext hR
  have c1 : Chg w W R b := Chg.of_ext hR R b
  obtain ⟨r0, r1, r2, r3, r4, r5, r6⟩ := id hr1
  have y0c : W.cell? ⟨g0, 0, none⟩ = some (.int .i64 0) := by rw [cell_of_row _ _ _ _ _ _ hblk]; rfl
  have y1c : W.cell? ⟨g0, 1, none⟩ = some (.int .i64 0) := by rw [cell_of_row _ _ _ _ _ _ hblk]; rfl
  have y2c : W.cell? ⟨g0, 2, none⟩ = some (.int .i64 0) := by rw [cell_of_row _ _ _ _ _ _ hblk]; rfl
  have y3c : W.cell? ⟨g0, 3, none⟩ = some (.int .i64 0) := by rw [cell_of_row _ _ _ _ _ _ hblk]; rfl
  have z0c : W.frozen? ⟨g0, 0, none⟩ = false := by simp [World.frozen?, hblk]
  have z1c : W.frozen? ⟨g0, 1, none⟩ = false := by simp [World.frozen?, hblk]
  have z2c : W.frozen? ⟨g0, 2, none⟩ = false := by simp [World.frozen?, hblk]
  have z3c : W.frozen? ⟨g0, 3, none⟩ = false := by simp [World.frozen?, hblk]
  go_wp2_with fail
  generalize hV : World.setCell (World.setCell (World.setCell (World.setCell (World.setCell W _ _) _ _) _ _) _ _) _ _ = V at *
  have rV : Rn V R t (some ⟨ab, ao, none⟩) n c (.iface T (.pointer (some ⟨b, 0, none⟩))) frame Pa pn pc (k + 1) := by subst hV; exact ((((hr1.setG hRg 0 _).setG hRg 1 _).setG hRg 2 _).setG hRg 3 _).at_ (k + 1)
  have gV : Gm V b g := by subst hV; exact ((((hg1.setR hbg.symm 0 _).setR hbg.symm 1 _).setR hbg.symm 2 _).setR hbg.symm 3 _).setR hne 5 _
  have cV : Chg w V R b := by subst hV; exact (((((c1.setNew hg.lt hg0 _).setNew hg.lt hg0 _).setNew hg.lt hg0 _).setNew hg.lt hg0 _)).trans (Chg.setR _ R b 5 hne _)
  have v0 : V.cell? ⟨g0, 0, none⟩ = some (.int .i64 10) := by subst hV; go_simp
  have v1 : V.cell? ⟨g0, 1, none⟩ = some (.int .i64 x) := by subst hV; go_simp
  have v2 : V.cell? ⟨g0, 2, none⟩ = some (.int .i64 y) := by subst hV; go_simp
  have v3 : V.cell? ⟨g0, 3, none⟩ = some (.int .i64 z) := by subst hV; go_simp
  clear hV r0 r1 r2 r3 r4 r5 r6 y0c y1c y2c y3c z0c z1c z2c z3c hblk hr1 hg1 c1 hR hl
  obtain ⟨r0, r1, r2, r3, r4, r5, r6⟩ := id rV
  apply wp_region_lex (R := Ext) (by kernel_rfl) (by kernel_rfl) Ext.refl (fun _ _ _ => Ext.trans) (Ext.drew _)
  repeat
    apply lex_ex Ext.refl
    · rfl
    · intro W' hR hΦ
      have d0 := hR.cell r2
      have d1 := hR.cell v0
      have d2 := hR.cell v1
      have d3 := hR.cell v2
      have d4 := hR.cell v3
      go_simp
      first | done | with_reducible rfl
    simp only [Act.put, List.setIfInBounds_toArray, List.set_cons_zero, List.set_cons_succ]
  apply lex_callx
  · rfl
  · intro W'
    go_simp
    exact ⟨rfl, rfl⟩
  · intro W' hR hΦ
    refine (hM.gc _ g x (gV.ext hR) x0 x1).mono ?_
    rintro e w' ⟨rfl, rfl⟩
    exact ⟨rfl, Ext.refl _⟩
  simp only [Act.put, List.setIfInBounds_toArray, List.set_cons_zero, List.set_cons_succ]
  repeat
    apply lex_ex Ext.refl
    · rfl
    · intro W' hR hΦ
      have d0 := hR.cell r2
      have d1 := hR.cell v0
      have d2 := hR.cell v1
      have d3 := hR.cell v2
      have d4 := hR.cell v3
      go_simp
      first | done | with_reducible rfl
    simp only [Act.put, List.setIfInBounds_toArray, List.set_cons_zero, List.set_cons_succ]
  refine lex_nil ?_
  intro W1 hR1 hΦ
  clear hΦ
  have rW := rV.ext hR1
  have gW := gV.ext hR1
  have cW := cV.trans (Chg.of_ext hR1 R b)
  have v2 := hR1.cell v2
  obtain ⟨r0, r1, r2, r3, r4, r5, r6⟩ := id rW
  go_wp2_with fail
  go_ret
  exact ⟨rfl, rW, gW, cW⟩
set_option maxRecDepth 100000 in
set_option maxHeartbeats 2000000 in
theorem one_keep (w : World) (R b T : Nat) {G S : FuncId} (t : List UInt8) (A : Option Addr) (n c : Nat) (l : List OpT) (frame : Int) (Pa : Option Addr) (pn pc k : Nat) (press : List UInt8) (g : List Int)
    (hM : MemI T b G S) (hr : Rn w R t A n c (.iface T (.pointer (some ⟨b, 0, none⟩))) frame Pa pn pc k) (hl : Ro w A n c l) (hp : Rb w Pa pn pc press) (hg : Gm w b g) (hok : okG g) (hne : R ≠ b) (hk : k < l.length) (h64 : l.length ≤ 64) (ht : t.length ≤ 1099511627776) {xc x y z : Int} (ho : l[k] = (xc, x, y, z)) (hx : xc = 13) (x0 : 0 ≤ x) (x1 : x ≤ 31) (y0 : 0 ≤ y) (y1 : y ≤ 31) :
    Calls Try.prog 50 #[.pointer (some ⟨R, 0, none⟩)] w (OneOf w R b t A n c (.iface T (.pointer (some ⟨b, 0, none⟩))) frame Pa pn pc (k + 1) (setN g (remN (getN g x) : Nat) (getN g y)) true) := by
  obtain ⟨ab, ao, rfl, o0, o1, o2, o3⟩ := hl.at_ hk
  have hn := hl.len
  have hmx := hl.max
  unfold maxLen at hmx
  rw [ho] at o0 o1 o2 o3
  clear ho
  dsimp only at o0 o1 o2 o3
  obtain ⟨r0, r1, r2, r3, r4, r5, r6⟩ := id hr
  subst hx
  have hyk := getN_ok hok x
  have hlt := remN_lt (getN g x)
  have hm := hM.gm
  have he := hM.ge
  have hms := hM.sm
  have hes := hM.se
  go_enter Try.func50, Try.ntmps50
  go_wp2_with fail
  apply wp_region_lex_tails 12 (R := Ext) (by decide) (by kernel_rfl) (by kernel_rfl) (by kernel_rfl) Ext.refl (fun _ _ _ => Ext.trans) (Ext.drew _)
  simp only [List.take_succ_cons, List.take_zero]
  repeat
    apply lex_ex Ext.refl
    · rfl
    · intro W' hR hΦ
      have d0 := hR.cell r1
      have d1 := hR.cell r5
      have d2 := hR.cell o0
      have d3 := hR.cell o1
      have d4 := hR.cell o2
      have d5 := hR.cell o3
      go_simp
      first | done | with_reducible rfl
    simp only [Act.put, List.setIfInBounds_toArray, List.set_cons_zero, List.set_cons_succ]
  apply lex_new (p := fun u W => ∃ g0, u = .pointer (some ⟨g0, 0, none⟩) ∧ w.heap.size ≤ g0 ∧ W.heap[g0]? = some (.cells #[.int .i64 0, .int .i64 0, .int .i64 0, .int .i64 0] 46 (0, 0))) (fun _ _ _ ⟨g, hv, hg, h⟩ he => ⟨g, hv, hg, (he.block g (Array.getElem?_eq_some_iff.1 h).1).trans h⟩)
  · rfl
  · intro W hR hΦ
    refine ⟨.pointer (some ⟨W.heap.size, 0, none⟩), W.alloc (.cells #[.int .i64 0, .int .i64 0, .int .i64 0, .int .i64 0] 46), ?_, Ext.alloc _ _, W.heap.size, rfl, hR.size, heap_alloc_new W _⟩
    go_simp
    first | done | rfl
  intro v2
  simp only [Act.put, List.setIfInBounds_toArray, List.set_cons_zero, List.set_cons_succ]
  refine lex_nil ?_
  intro W hR hΦ
  obtain ⟨g0, rfl, hg0, hblk⟩ := hΦ.1 rfl
  simp only [List.drop_succ_cons, List.drop_zero]
  clear hΦ r0 r1 r2 r3 r4 r5 r6 o0 o1 o2 o3
  have hRg : R ≠ g0 := by have := hr.lt; omega
  have hbg : b ≠ g0 := by have := hg.lt; omega
  have hr1 := hr.ext hR
  have hg1 := hg.ext hR
  have hp1 := hp.ext hR
  have c1 : Chg w W R b := Chg.of_ext hR R b
  obtain ⟨r0, r1, r2, r3, r4, r5, r6⟩ := id hr1
  have y0c : W.cell? ⟨g0, 0, none⟩ = some (.int .i64 0) := by rw [cell_of_row _ _ _ _ _ _ hblk]; rfl
  have y1c : W.cell? ⟨g0, 1, none⟩ = some (.int .i64 0) := by rw [cell_of_row _ _ _ _ _ _ hblk]; rfl
  have y2c : W.cell? ⟨g0, 2, none⟩ = some (.int .i64 0) := by rw [cell_of_row _ _ _ _ _ _ hblk]; rfl
  have y3c : W.cell? ⟨g0, 3, none⟩ = some (.int .i64 0) := by rw [cell_of_row _ _ _ _ _ _ hblk]; rfl
  have z0c : W.frozen? ⟨g0, 0, none⟩ = false := by simp [World.frozen?, hblk]
  have z1c : W.frozen? ⟨g0, 1, none⟩ = false := by simp [World.frozen?, hblk]
  have z2c : W.frozen? ⟨g0, 2, none⟩ = false := by simp [World.frozen?, hblk]
  have z3c : W.frozen? ⟨g0, 3, none⟩ = false := by simp [World.frozen?, hblk]
  go_wp2_with fail
  generalize hV : World.setCell (World.setCell (World.setCell (World.setCell (World.setCell W _ _) _ _) _ _) _ _) _ _ = V at *
  have rV : Rn V R t (some ⟨ab, ao, none⟩) n c (.iface T (.pointer (some ⟨b, 0, none⟩))) frame Pa pn pc (k + 1) := by subst hV; exact ((((hr1.setG hRg 0 _).setG hRg 1 _).setG hRg 2 _).setG hRg 3 _).at_ (k + 1)
  have gV : Gm V b g := by subst hV; exact ((((hg1.setR hbg.symm 0 _).setR hbg.symm 1 _).setR hbg.symm 2 _).setR hbg.symm 3 _).setR hne 5 _
  have cV : Chg w V R b := by subst hV; exact (((((c1.setNew hg.lt hg0 _).setNew hg.lt hg0 _).setNew hg.lt hg0 _).setNew hg.lt hg0 _)).trans (Chg.setR _ R b 5 hne _)
  have v0 : V.cell? ⟨g0, 0, none⟩ = some (.int .i64 13) := by subst hV; go_simp
  have v1 : V.cell? ⟨g0, 1, none⟩ = some (.int .i64 x) := by subst hV; go_simp
  have v2 : V.cell? ⟨g0, 2, none⟩ = some (.int .i64 y) := by subst hV; go_simp
  have v3 : V.cell? ⟨g0, 3, none⟩ = some (.int .i64 z) := by subst hV; go_simp
  clear hV r0 r1 r2 r3 r4 r5 r6 y0c y1c y2c y3c z0c z1c z2c z3c hblk hr1 hg1 c1 hR hl
  obtain ⟨r0, r1, r2, r3, r4, r5, r6⟩ := id rV
  apply wp_region_lex (R := Ext) (by kernel_rfl) (by kernel_rfl) Ext.refl (fun _ _ _ => Ext.trans) (Ext.drew _)
  repeat
    apply lex_ex Ext.refl
    · rfl
    · intro W' hR hΦ
      have d0 := hR.cell r2
      have d1 := hR.cell v0
      have d2 := hR.cell v1
      have d3 := hR.cell v2
      have d4 := hR.cell v3
      go_simp
      first | done | with_reducible rfl
    simp only [Act.put, List.setIfInBounds_toArray, List.set_cons_zero, List.set_cons_succ]
  apply lex_callx
  · rfl
  · intro W'
    go_simp
    exact ⟨rfl, rfl⟩
  · intro W' hR hΦ
    refine (hM.gc _ g x (gV.ext hR) x0 x1).mono ?_
    rintro e w' ⟨rfl, rfl⟩
    exact ⟨rfl, Ext.refl _⟩
  simp only [Act.put, List.setIfInBounds_toArray, List.set_cons_zero, List.set_cons_succ]
  repeat
    apply lex_ex Ext.refl
    · rfl
    · intro W' hR hΦ
      have d0 := hR.cell r2
      have d1 := hR.cell v0
      have d2 := hR.cell v1
      have d3 := hR.cell v2
      have d4 := hR.cell v3
      go_simp
      first | done | with_reducible rfl
    simp only [Act.put, List.setIfInBounds_toArray, List.set_cons_zero, List.set_cons_succ]
  apply lex_callx
  · rfl
  · intro W'
    go_simp
    exact ⟨rfl, rfl⟩
  · intro W' hR hΦ
    refine (mod_is _ _ hyk).mono ?_
    rintro e w' ⟨rfl, rfl⟩
    exact ⟨rfl, Ext.refl _⟩
  simp only [Act.put, List.setIfInBounds_toArray, List.set_cons_zero, List.set_cons_succ]
  repeat
    apply lex_ex Ext.refl
    · rfl
    · intro W' hR hΦ
      have d0 := hR.cell r2
      have d1 := hR.cell v0
      have d2 := hR.cell v1
      have d3 := hR.cell v2
      have d4 := hR.cell v3
      go_simp
      first | done | with_reducible rfl
    simp only [Act.put, List.setIfInBounds_toArray, List.set_cons_zero, List.set_cons_succ]
  refine lex_nil ?_
  intro W1 hR1 hΦ
  clear hΦ
  have rV := rV.ext hR1
  have gV := gV.ext hR1
  have cV := cV.trans (Chg.of_ext hR1 R b)
  have v0 := hR1.cell v0
  have v1 := hR1.cell v1
  have v2 := hR1.cell v2
  have v3 := hR1.cell v3
  obtain ⟨r0, r1, r2, r3, r4, r5, r6⟩ := id rV
  go_wp2_with fail
  apply wp_region_lex_tails 14 (R := Ext) (by decide) (by kernel_rfl) (by kernel_rfl) (by kernel_rfl) Ext.refl (fun _ _ _ => Ext.trans) (Ext.drew _)
  simp only [List.take_succ_cons, List.take_zero]
  repeat
    apply lex_ex Ext.refl
    · rfl
    · intro W' hR hΦ
      have d0 := hR.cell r2
      have d1 := hR.cell v0
      have d2 := hR.cell v1
      have d3 := hR.cell v2
      have d4 := hR.cell v3
      go_simp
      first | done | with_reducible rfl
    simp only [Act.put, List.setIfInBounds_toArray, List.set_cons_zero, List.set_cons_succ]
  apply lex_callx
  · rfl
  · intro W'
    go_simp
    exact ⟨rfl, rfl⟩
  · intro W' hR hΦ
    refine (hM.gc _ g y (gV.ext hR) y0 y1).mono ?_
    rintro e w' ⟨rfl, rfl⟩
    exact ⟨rfl, Ext.refl _⟩
  simp only [Act.put, List.setIfInBounds_toArray, List.set_cons_zero, List.set_cons_succ]
  repeat
    apply lex_ex Ext.refl
    · rfl
    · intro W' hR hΦ
      have d0 := hR.cell r2
      have d1 := hR.cell v0
      have d2 := hR.cell v1
      have d3 := hR.cell v2
      have d4 := hR.cell v3
      go_simp
      first | done | with_reducible rfl
    simp only [Act.put, List.setIfInBounds_toArray, List.set_cons_zero, List.set_cons_succ]
  refine lex_nil ?_
  intro W2 hR2 hΦ
  clear hΦ
  simp only [List.drop_succ_cons, List.drop_zero]
  have rW := rV.ext hR2
  have gW := gV.ext hR2
  have cW := cV.trans (Chg.of_ext hR2 R b)
  go_wp2_with fail
  refine (hM.sc _ g _ _ gW (by omega) (by omega)).mono ?_
  rintro e w2 ⟨rfl, rfl⟩
  go_wp2_with fail
  obtain ⟨sc, sf⟩ := gW.at_ (i := (remN (getN g x) : Nat)) (by omega) (by omega)
  go_ret
  exact ⟨rfl, rW.setG hne _ _, gW.set_ (by omega) (by omega) _, cW.trans (Chg.setG _ R b _ (by omega) _ _ sc sf)⟩
set_option maxRecDepth 100000 in
set_option maxHeartbeats 2000000 in
theorem one_set (w : World) (R b T : Nat) {G S : FuncId} (t : List UInt8) (A : Option Addr) (n c : Nat) (l : List OpT) (frame : Int) (Pa : Option Addr) (pn pc k : Nat) (press : List UInt8) (g : List Int)
    (hM : MemI T b G S) (hr : Rn w R t A n c (.iface T (.pointer (some ⟨b, 0, none⟩))) frame Pa pn pc k) (hl : Ro w A n c l) (hp : Rb w Pa pn pc press) (hg : Gm w b g) (hok : okG g) (hne : R ≠ b) (hk : k < l.length) (h64 : l.length ≤ 64) (ht : t.length ≤ 1099511627776) {xc x y z : Int} (ho : l[k] = (xc, x, y, z)) (hx : xc ≠ 0 ∧ xc ≠ 9 ∧ xc ≠ 10 ∧ xc ≠ 13) (x0 : 0 ≤ x) (x1 : x ≤ 31) (hval : ∀ W, Rn W R t A n c (.iface T (.pointer (some ⟨b, 0, none⟩))) frame Pa pn pc (k + 1) → Gm W b g → Rb W Pa pn pc press → Calls Try.prog 56 #[.pointer (some ⟨R, 0, none⟩), opAgg (xc, x, y, z)] W fun e w' => e = .returned (.int .i32 (valN t press frame g (xc, x, y, z))) ∧ Ext W w') (hpk : ∀ V, Chg w V R b → Rb V Pa pn pc press) :
    Calls Try.prog 50 #[.pointer (some ⟨R, 0, none⟩)] w (OneOf w R b t A n c (.iface T (.pointer (some ⟨b, 0, none⟩))) frame Pa pn pc (k + 1) (setN g x (valN t press frame g (xc, x, y, z))) true) := by
  obtain ⟨ab, ao, rfl, o0, o1, o2, o3⟩ := hl.at_ hk
  have hn := hl.len
  have hmx := hl.max
  unfold maxLen at hmx
  rw [ho] at o0 o1 o2 o3
  clear ho
  dsimp only at o0 o1 o2 o3
  obtain ⟨r0, r1, r2, r3, r4, r5, r6⟩ := id hr
  have n0 : (xc == 0) = false := by rw [beq_eq_false_iff_ne]; omega
  have n9 : (xc == 9) = false := by rw [beq_eq_false_iff_ne]; omega
  have n10 : (xc == 10) = false := by rw [beq_eq_false_iff_ne]; omega
  have n13 : (xc == 13) = false := by rw [beq_eq_false_iff_ne]; omega
  clear hx
  unfold opAgg at hval
  have Hval := Lib.hid hval
  clear hval
  generalize valN t press frame g (xc, x, y, z) = v at *
  have hm := hM.gm
  have he := hM.ge
  have hms := hM.sm
  have hes := hM.se
  go_enter Try.func50, Try.ntmps50
  go_wp2_with fail
  apply wp_region_lex_tails 12 (R := Ext) (by decide) (by kernel_rfl) (by kernel_rfl) (by kernel_rfl) Ext.refl (fun _ _ _ => Ext.trans) (Ext.drew _)
  simp only [List.take_succ_cons, List.take_zero]
  repeat
    apply lex_ex Ext.refl
    · rfl
    · intro W' hR hΦ
      have d0 := hR.cell r1
      have d1 := hR.cell r5
      have d2 := hR.cell o0
      have d3 := hR.cell o1
      have d4 := hR.cell o2
      have d5 := hR.cell o3
      go_simp
      first | done | with_reducible rfl
    simp only [Act.put, List.setIfInBounds_toArray, List.set_cons_zero, List.set_cons_succ]
  apply lex_new (p := fun u W => ∃ g0, u = .pointer (some ⟨g0, 0, none⟩) ∧ w.heap.size ≤ g0 ∧ W.heap[g0]? = some (.cells #[.int .i64 0, .int .i64 0, .int .i64 0, .int .i64 0] 46 (0, 0))) (fun _ _ _ ⟨g, hv, hg, h⟩ he => ⟨g, hv, hg, (he.block g (Array.getElem?_eq_some_iff.1 h).1).trans h⟩)
  · rfl
  · intro W hR hΦ
    refine ⟨.pointer (some ⟨W.heap.size, 0, none⟩), W.alloc (.cells #[.int .i64 0, .int .i64 0, .int .i64 0, .int .i64 0] 46), ?_, Ext.alloc _ _, W.heap.size, rfl, hR.size, heap_alloc_new W _⟩
    go_simp
    first | done | rfl
  intro v2
  simp only [Act.put, List.setIfInBounds_toArray, List.set_cons_zero, List.set_cons_succ]
  refine lex_nil ?_
  intro W hR hΦ
  obtain ⟨g0, rfl, hg0, hblk⟩ := hΦ.1 rfl
  simp only [List.drop_succ_cons, List.drop_zero]
  clear hΦ r0 r1 r2 r3 r4 r5 r6 o0 o1 o2 o3
  have hRg : R ≠ g0 := by have := hr.lt; omega
  have hbg : b ≠ g0 := by have := hg.lt; omega
  have hr1 := hr.ext hR
  have hg1 := hg.ext hR
  have hp1 := hp.ext hR
  have c1 : Chg w W R b := Chg.of_ext hR R b
  obtain ⟨r0, r1, r2, r3, r4, r5, r6⟩ := id hr1
  have y0c : W.cell? ⟨g0, 0, none⟩ = some (.int .i64 0) := by rw [cell_of_row _ _ _ _ _ _ hblk]; rfl
  have y1c : W.cell? ⟨g0, 1, none⟩ = some (.int .i64 0) := by rw [cell_of_row _ _ _ _ _ _ hblk]; rfl
  have y2c : W.cell? ⟨g0, 2, none⟩ = some (.int .i64 0) := by rw [cell_of_row _ _ _ _ _ _ hblk]; rfl
  have y3c : W.cell? ⟨g0, 3, none⟩ = some (.int .i64 0) := by rw [cell_of_row _ _ _ _ _ _ hblk]; rfl
  have z0c : W.frozen? ⟨g0, 0, none⟩ = false := by simp [World.frozen?, hblk]
  have z1c : W.frozen? ⟨g0, 1, none⟩ = false := by simp [World.frozen?, hblk]
  have z2c : W.frozen? ⟨g0, 2, none⟩ = false := by simp [World.frozen?, hblk]
  have z3c : W.frozen? ⟨g0, 3, none⟩ = false := by simp [World.frozen?, hblk]
  go_wp2_with fail
  generalize hV : World.setCell (World.setCell (World.setCell (World.setCell (World.setCell W _ _) _ _) _ _) _ _) _ _ = V at *
  have rV : Rn V R t (some ⟨ab, ao, none⟩) n c (.iface T (.pointer (some ⟨b, 0, none⟩))) frame Pa pn pc (k + 1) := by subst hV; exact ((((hr1.setG hRg 0 _).setG hRg 1 _).setG hRg 2 _).setG hRg 3 _).at_ (k + 1)
  have gV : Gm V b g := by subst hV; exact ((((hg1.setR hbg.symm 0 _).setR hbg.symm 1 _).setR hbg.symm 2 _).setR hbg.symm 3 _).setR hne 5 _
  have cV : Chg w V R b := by subst hV; exact (((((c1.setNew hg.lt hg0 _).setNew hg.lt hg0 _).setNew hg.lt hg0 _).setNew hg.lt hg0 _)).trans (Chg.setR _ R b 5 hne _)
  have pV : Rb V Pa pn pc press := hpk V cV
  have v0 : V.cell? ⟨g0, 0, none⟩ = some (.int .i64 xc) := by subst hV; go_simp
  have v1 : V.cell? ⟨g0, 1, none⟩ = some (.int .i64 x) := by subst hV; go_simp
  have v2 : V.cell? ⟨g0, 2, none⟩ = some (.int .i64 y) := by subst hV; go_simp
  have v3 : V.cell? ⟨g0, 3, none⟩ = some (.int .i64 z) := by subst hV; go_simp
  clear hV r0 r1 r2 r3 r4 r5 r6 y0c y1c y2c y3c z0c z1c z2c z3c hblk hr1 hg1 c1 hR hl
  obtain ⟨r0, r1, r2, r3, r4, r5, r6⟩ := id rV
  apply wp_region_lex_tails 11 (R := Ext) (by decide) (by kernel_rfl) (by kernel_rfl) (by kernel_rfl) Ext.refl (fun _ _ _ => Ext.trans) (Ext.drew _)
  simp only [List.take_succ_cons, List.take_zero]
  repeat
    apply lex_ex Ext.refl
    · rfl
    · intro W' hR hΦ
      have d0 := hR.cell r2
      have d1 := hR.cell v0
      have d2 := hR.cell v1
      have d3 := hR.cell v2
      have d4 := hR.cell v3
      go_simp
      first | done | with_reducible rfl
    simp only [Act.put, List.setIfInBounds_toArray, List.set_cons_zero, List.set_cons_succ]
  apply lex_callx
  · rfl
  · intro W'
    go_simp
    exact ⟨rfl, rfl⟩
  · intro W' hR hΦ
    refine (Hval.out _ (rV.ext hR) (gV.ext hR) (pV.ext hR)).mono ?_
    rintro e w' ⟨rfl, h9⟩
    exact ⟨rfl, h9⟩
  simp only [Act.put, List.setIfInBounds_toArray, List.set_cons_zero, List.set_cons_succ]
  repeat
    apply lex_ex Ext.refl
    · rfl
    · intro W' hR hΦ
      have d0 := hR.cell r2
      have d1 := hR.cell v0
      have d2 := hR.cell v1
      have d3 := hR.cell v2
      have d4 := hR.cell v3
      go_simp
      first | done | with_reducible rfl
    simp only [Act.put, List.setIfInBounds_toArray, List.set_cons_zero, List.set_cons_succ]
  refine lex_nil ?_
  intro W1 hR1 hΦ
  clear hΦ
  simp only [List.drop_succ_cons, List.drop_zero]
  have rW := rV.ext hR1
  have gW := gV.ext hR1
  have cW := cV.trans (Chg.of_ext hR1 R b)
  go_wp2_with fail
  refine (hM.sc _ g _ _ gW x0 x1).mono ?_
  rintro e w2 ⟨rfl, rfl⟩
  go_wp2_with fail
  obtain ⟨sc, sf⟩ := gW.at_ x0 x1
  go_ret
  exact ⟨rfl, rW.setG hne _ _, gW.set_ x0 x1 _, cW.trans (Chg.setG _ R b _ (by omega) _ _ sc sf)⟩
end Go.Proofs.Ytihegdjdgklbgaa
