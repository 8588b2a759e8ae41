/- The walks of fold.All, fold.Each, the reference's Fold. -/
import Derived.Test.YtihegdjdgklbgaaFoW
import Derived.Test.YtihegdjdgklbgaaRegS
namespace Go.Proofs.Ytihegdjdgklbgaa
set_option maxRecDepth 100000
open Go.RowKit
set_option linter.unusedVariables false

set_option maxHeartbeats 1000000 in
theorem all_any (w : World) (t : List UInt8) (A : Option Addr) (n c : Nat) (l : List OpT) (PA : Option Addr) (pn pc : Nat) (ps : List (List UInt8))
    (ht : t.length ≤ 1099511627776) (hl : Ro w A n c l) (hp : Rp w PA pn pc ps) (hps : ps.length ≤ 1000) :
    Calls Try.prog 18 #[pAgg t A n c, .slice PA pn pc] w fun e w' => e = .returned (.agg (gcs (foldN t l 0 zeroG ps))) ∧ Ext w w' := by
  have hfr := fun W h1 h2 => from_any W t A n c l 0 PA pn pc ps zeroG ht h1 h2 zeroG_ok (by decide) (by decide) hps
  obtain ⟨G, hG⟩ : ∃ x, foldN t l 0 zeroG ps = x := ⟨_, rfl⟩
  have hG32 : G.length = 32 := by rw [← hG]; exact (foldN_ok t l ps 0 zeroG_ok).1
  rw [hG] at hfr ⊢
  unfold pAgg at *
  have Hfr := Lib.hid hfr
  have HG32 := Lib.hid hG32
  clear hfr hG hG32
  go_enter Try.func18, Try.ntmps18
  go_wp2_with fail
  generalize hV : World.alloc (World.alloc w _) _ = V
  have eV : Ext w V := by subst hV; exact (Ext.alloc _ _).trans (Ext.alloc _ _)
  have bR : Blk V (w.heap.size + 1) 31 zeroG := by subst hV; exact Blk.new' _ _ (g := zeroG) rfl (by simp)
  clear hV
  refine Calls.mono (Hfr.out V (hl.ext eV) (hp.ext eV)) ?_
  rintro e w1 ⟨rfl, e1⟩
  have rR := bR.ext e1
  have xR := eV.trans e1
  go_wp2_with (with_reducible refine wpList_store_blk rfl 31 (.tmp 4) (.tmp 8) rfl rfl rfl rR HG32.out size_state ?_)
  exact bodyPost_ret (v := .agg (gcs G)) (result_gm rfl _ rfl (rR.setRow HG32.out).gm Try.underlying31 size_state) rfl ⟨rfl, xR.setRow (by omega) _⟩

/-- The games behind each frame, the first k of them told. -/
def eachK (t : List UInt8) (l : List OpT) (ps : List (List UInt8)) (k : Nat) : List (List Int) := (List.range (k + 1)).map fun i => foldN t l 0 zeroG (ps.take i)
theorem eachK_len (t : List UInt8) (l : List OpT) (ps : List (List UInt8)) (k : Nat) : (eachK t l ps k).length = k + 1 := by simp [eachK]
theorem eachK_succ (t : List UInt8) (l : List OpT) (ps : List (List UInt8)) (k : Nat) : eachK t l ps (k + 1) = eachK t l ps k ++ [foldN t l 0 zeroG (ps.take (k + 1))] := by unfold eachK; rw [List.range_succ (n := k + 1), List.map_append]; rfl
theorem eachK_32 (t : List UInt8) (l : List OpT) (ps : List (List UInt8)) (k : Nat) : ∀ g ∈ eachK t l ps k, g.length = 32 := by
  intro g hg
  obtain ⟨i, _, rfl⟩ := List.mem_map.1 hg
  exact (foldN_ok t l _ 0 zeroG_ok).1
theorem eachK_at (t : List UInt8) (l : List OpT) (ps : List (List UInt8)) {k i : Nat} (h : i < (eachK t l ps k).length) : (eachK t l ps k)[i] = foldN t l 0 zeroG (ps.take i) := by simp [eachK]
theorem gsc_single (g : List Int) : gsc [g] = gcells g := by simp [gsc]
def EachOf (w : World) (t : List UInt8) (l : List OpT) (ps : List (List UInt8)) (e : Ending) (w' : World) : Prop := ∃ B d, e = .returned (.slice B (ps.length + 1) d) ∧ Rg w' B (ps.length + 1) d (eachK t l ps ps.length) ∧ Ext w w'
theorem gcells_one (g : List Int) : ∀ u ∈ gcells g, u.oneCell' = true := by
  intro u hu
  obtain ⟨x, _, rfl⟩ := List.mem_map.1 hu
  rfl
def eaRel (w : World) (t : List UInt8) (A : Option Addr) (n c : Nat) (l : List OpT) (ps : List (List UInt8)) (gp bs : Nat) (v iv : Value) (wr : World) : Prop :=
  ∃ (k : Nat) (B : Option Addr) (d : Nat), v = .slice B (k + 1) d ∧ iv = .int .i64 (k : Nat) ∧ k ≤ ps.length ∧ Own wr (bs + 1) 31 32 B (k + 1) d (gsc (eachK t l ps k)) ∧
    Blk wr bs 31 (foldN t l 0 zeroG (ps.take k)) ∧ wr.cell? ⟨gp, 0, none⟩ = some (.string (Go.Proofs.Ytihegdjdgklbgaa.bs t)) ∧ wr.cell? ⟨gp, 1, none⟩ = some (.slice A n c) ∧ Ext w wr
theorem info_state : (Try.prog.info? 31).map (fun i => (i.zero, i.size, i.bytes)) = some (some (.agg zero32), 32, 128) := by kernel_rfl

set_option maxHeartbeats 2000000 in
theorem each_any (w : World) (t : List UInt8) (A : Option Addr) (n c : Nat) (l : List OpT) (PA : Option Addr) (pn pc : Nat) (ps : List (List UInt8))
    (ht : t.length ≤ 1099511627776) (hl : Ro w A n c l) (hp : Rp w PA pn pc ps) (hps : ps.length ≤ 1000) :
    Calls Try.prog 17 #[pAgg t A n c, .slice PA pn pc] w (EachOf w t l ps) := by
  have hmx := hp.max
  have hpn := hp.len
  unfold maxLen at hmx
  unfold pAgg
  have Hpn := Lib.hid hpn
  clear hpn
  obtain ⟨i0, hi, hz0, hz1, hz2⟩ := info_parts info_state
  have hsz : (gcs zeroG).size = 32 := rfl
  have hfold := foldSet zeroG rfl
  go_enter Try.func17, Try.ntmps17
  go_wp2_with ((with_reducible refine wpList_load_gm rfl 31 (.tmp 5) rfl rfl Try.underlying31 size_state (g := zeroG) ?hg ?_); case hg => exact (Blk.new' _ _ (g := zeroG) rfl (by simp)).gm)
  obtain ⟨b, hb⟩ : ∃ b, w.heap.size + 1 = b := ⟨_, rfl⟩
  have hb1 : w.heap.size + 1 + 1 = b + 1 := by omega
  have hb2 : w.heap.size < b := by omega
  rw [hb1, hb]
  generalize hV : World.alloc (World.alloc (World.alloc w _) _) _ = V
  have eV : Ext w V := by subst hV; exact ((Ext.alloc _ _).trans (Ext.alloc _ _)).trans (Ext.alloc _ _)
  have oV : Own V (b + 1) 31 32 (some ⟨b + 1, 0, none⟩) 1 1 (gsc (eachK t l ps 0)) := by
    subst hV
    have h := Own.made ((w.alloc (.cells #[.string (Go.Proofs.Ytihegdjdgklbgaa.bs t), .slice A n c] 24)).alloc (.cells zero32 31)) (b + 1) 31 32 (gcells zeroG) 1 (by simp; omega) (by decide) rfl
    have e : ((w.alloc (.cells #[.string (Go.Proofs.Ytihegdjdgklbgaa.bs t), .slice A n c] 24)).alloc (.cells zero32 31)).heap.size = b + 1 := by simp; omega
    rw [e] at h
    exact h
  have bS : Blk V b 31 zeroG := by subst hV; exact (Blk.new' _ _ (g := zeroG) rfl (by simp; omega)).ext (Ext.alloc _ _)
  have c0 : V.cell? ⟨w.heap.size, 0, none⟩ = some (.string (Go.Proofs.Ytihegdjdgklbgaa.bs t)) := by subst hV; go_simp
  have c1 : V.cell? ⟨w.heap.size, 1, none⟩ = some (.slice A n c) := by subst hV; go_simp
  have Hb := Lib.hid hb
  clear hV hb hb1 hfold hsz
  go_loopw [6, 13] (fun v iv wr => eaRel w t A n c l ps w.heap.size b v iv wr) (fun _ iv _ => ps.length - (intOf iv).toNat)
  case atStart => exact ⟨0, _, _, rfl, rfl, by omega, oV, bS, c0, c1, eV⟩
  case round =>
    obtain ⟨k, B, d, rfl, rfl, hk, ho, hbk, d0, d1, he⟩ := hrel
    have hBne : ∀ j, j ≤ b → some j ≠ blk B := fun j hj e => by
      have := ho.blk_ge j e.symm
      omega
    have HBne := Lib.hid hBne
    clear hBne
    by_cases hlt : k < pn
    · have hd : decide (k < pn) = true := decide_eq_true hlt
      have hkl : k < ps.length := by have := Hpn.out; omega
      obtain ⟨pb, po, Ai, ni, ci, rfl, hc0, hr0⟩ := hp.at_ hkl
      have hc := he.cell hc0
      have hgo := foldN_ok t l (ps.take k) 0 zeroG_ok
      have hsn := foldN_snoc t l 0 zeroG hkl
      rw [show (0 : Int) + k = k by omega] at hsn
      have hst := fun W h1 h2 => step_any W t A n c l k Ai ni ci (ps[k]'hkl) (foldN t l 0 zeroG (ps.take k)) ht h1 h2 hgo
      rw [← hsn] at hst
      unfold pAgg at hst
      have Hst := Lib.hid hst
      have Hg2 := Lib.hid (foldN_ok t l (ps.take (k + 1)) 0 zeroG_ok).1
      have Hek := Lib.hid (eachK_succ t l ps k)
      have Hl := Lib.hid (hl.ext he)
      have Hr := Lib.hid (hr0.ext he)
      clear hst hsn hgo hr0 hc0
      obtain ⟨G2, hG2⟩ : ∃ x, foldN t l 0 zeroG (ps.take (k + 1)) = x := ⟨_, rfl⟩
      have HG2 := Lib.hid hG2
      rw [hG2] at Hst Hg2 Hek
      clear hG2
      generalize foldN t l 0 zeroG (ps.take k) = G1 at *
      have hsz2 : (gcs G2).size = 32 := by rw [gcs_size]; exact Hg2.out
      have hfold2 := foldSet G2 Hg2.out
      go_wp2_with (with_reducible refine wpList_load_gm rfl 31 (.tmp 5) rfl rfl Try.underlying31 size_state hbk.gm ?_)
      refine Calls.mono (Hst.out _ Hl.out Hr.out) ?_
      rintro e w2 ⟨rfl, e2⟩
      have hb3 := hbk.ext e2
      have o3 := ho.ext e2
      have d0 := e2.cell d0
      have d1 := e2.cell d1
      have x3 := he.trans e2
      clear hbk ho he
      go_wp2_with (first
        | ((with_reducible refine wpList_put_game rfl 31 (.tmp 5) (.tmp 22) rfl rfl rfl hb3 Hg2.out size_state ?_); intro W3 b4 y4 g4 s4; clear s4; have o4 := o3.kept g4 (.inr (HBne.out b (Nat.le_refl _)).symm); have d0 := g4.cell d0 (by simp; omega); have d1 := g4.cell d1 (by simp; omega); have x4 := y4 w x3 (by omega); have hW3 := b4.lt; clear o3 hb3)
        | (with_reducible refine wpList_load_gm rfl 31 (.tmp 5) rfl rfl Try.underlying31 size_state b4.gm ?_)
        | (at_builtin; refine wpList_append_new _ rfl _ _ 36 rfl (b + 1) 31 i0 (.agg zero32) 32 128 Try.underlying36 hi hz0 hz1 hz2 rfl (by decide) B (k + 1) d _ rfl o4 1 (gcells G2) rfl (by simp [gcells, Hg2.out]) (gcells_one G2) (by unfold maxLen; omega) (by omega) (by omega) ?_; intro B' d' w' ho' hg' hw'))
      go_roundw
      case rel =>
        refine ⟨k + 1, B', d', rfl, by go_num, hkl, ?_, ?_, hg'.cell d0 (HBne.out _ (by simp; omega)), hg'.cell d1 (HBne.out _ (by simp; omega)), Ext.own x4 hg' (fun j hj => ?_)⟩
        · rw [Hek.out, gsc_app, gsc_single]; exact ho'
        · rw [HG2.out]; exact b4.grown hg' (HBne.out b (Nat.le_refl _)).symm
        · have := o4.blk_ge j hj; omega
      case measure => simp [intOf]; omega
    · have hd : decide (k < pn) = false := decide_eq_false hlt
      have hkl : k = ps.length := by have := Hpn.out; omega
      subst hkl
      have hrd := ho.rd
      have Hrd := Lib.hid hrd
      clear hrd
      go_wp2_with fail
      go_ret
      exact ⟨B, d, rfl, ⟨Hrd.out, eachK_32 t l ps ps.length⟩, he⟩

/-- A game laid into a block, as one operation. -/
theorem exec_store_blk {P : Program} {w : World} {b : Nat} {g : List Int} {o : Oper} {a : Act} (ty : TypeId) (x y : Operand) (ho : o.op = .store ty x y) (hx : a.eval x = .pointer (some ⟨b, 0, none⟩)) {g' : List Int} (hy : a.eval y = .agg (gcs g')) {T : TypeId} (h : Blk w b T g) (hg : g'.length = 32) (hi : (P.info? ty).map (·.size) = some 32) :
    (execOp a.eval o).run P w = .ok .skip (w.setRow b (gcs g')) := by
  have hs := run_storeVar_row (P := P) w b T ty (gcs g) (gcs g') h.1 (by rw [hi, gcs_size, hg]) (by rw [gcs_size, gcs_size, hg, h.2]) (gcs_one g')
  unfold execOp
  simp only [ho, hx, hy, Instr.storeAt, Instr.sureAddr, Sem.run_bind, Sem.run_pure, Result.andThen_ok, hs]
/-- What each operation of the reference's Fold's round does to memory. -/
def rfRs (T : TypeId) (i : Nat) (σ : Nat → Value) (w w' : World) : Prop := w.grownBy w' (if i = 14 then blkOf (σ 13) else none) ∧ ∀ b gg, Blk w b T gg → ∃ gg', Blk w' b T gg'
theorem rfRs.ext {T : TypeId} {i : Nat} {σ : Nat → Value} {w w' : World} (e : Ext w w') : rfRs T i σ w w' := ⟨e.grownBy _, fun b gg h => ⟨gg, h.ext e⟩⟩
theorem rfRs.store {T : TypeId} {σ : Nat → Value} {w : World} {g0 : Nat} {g g' : List Int} (hσ : σ 13 = .pointer (some ⟨g0, 0, none⟩)) (h : Blk w g0 T g) (hg : g'.length = 32) : rfRs T 14 σ w (w.setRow g0 (gcs g')) := by
  refine ⟨?_, fun b gg hb => ?_⟩
  · rw [if_pos rfl, hσ]
    exact ⟨rfl, rfl, rfl, by simp, fun k _ hk => Go.setRow_other w g0 k _ (fun e => hk (by rw [e]; rfl))⟩
  · by_cases e : g0 = b
    · subst e; exact ⟨g', h.setRow hg⟩
    · exact ⟨gg, hb.setRow_other e⟩
def rf13 (T : TypeId) (m : Nat) (σ : Nat → Value) (w : World) : Prop := ∃ g0, σ 13 = .pointer (some ⟨g0, 0, none⟩) ∧ m ≤ g0 ∧ ∃ gg, Blk w g0 T gg
def rf14 (T : TypeId) (g : List Int) (σ : Nat → Value) (w : World) : Prop := ∃ g0, σ 13 = .pointer (some ⟨g0, 0, none⟩) ∧ Blk w g0 T g
theorem rfKeeps13 {T : TypeId} {m : Nat} {l : List Oper} : Keeps (rfRs T) 99 99 l 13 (rf13 T m) := by
  refine ⟨fun j σ v w hj _ h => ?_, fun j hj _ σ w w' _ h hr => ?_⟩
  · unfold rf13; rw [upd_ne (fun e => hj e.symm)]; exact h
  · obtain ⟨g0, h1, h2, gg, h3⟩ := h
    obtain ⟨gg', h4⟩ := hr.2 g0 gg h3
    exact ⟨g0, h1, h2, gg', h4⟩
theorem rfKeeps14 {T : TypeId} {g : List Int} {l : List Oper} (hb : bef l 14 13 = true) : Keeps (rfRs T) 99 99 l 14 (rf14 T g) := by
  refine ⟨fun j σ v w hj hj2 h => ?_, fun j hj _ σ w w' _ h hr => ?_⟩
  · unfold rf14
    rw [upd_ne (fun e => by subst e; rw [hb] at hj2; cases hj2)]; exact h
  · obtain ⟨g0, h1, h2⟩ := h
    have h3 := hr.1
    rw [if_neg hj] at h3
    exact ⟨g0, h1, h2.grown h3 (by simp)⟩
/-- The reference's Fold. -/
def rfRel (t : List UInt8) (l : List OpT) (f : Int) (g : List Int) (ps : List (List UInt8)) (w w1 : World) (gp b : Nat) (A : Option Addr) (n c : Nat) (iv : Value) (wr : World) : Prop :=
  ∃ k : Nat, iv = .int .i64 (k : Nat) ∧ k ≤ ps.length ∧ Blk wr b 33 (foldN t l f g (ps.take k)) ∧ Blk wr (b + 1) 33 zeroG ∧ wr.cell? ⟨gp, 0, none⟩ = some (.string (bs t)) ∧ wr.cell? ⟨gp, 1, none⟩ = some (.slice A n c) ∧ Ext w wr
set_option maxHeartbeats 2000000 in
theorem rfold_any (w : World) (t : List UInt8) (A : Option Addr) (n c : Nat) (l : List OpT) (frame : Int) (PA : Option Addr) (pn pc : Nat) (ps : List (List UInt8)) (g : List Int)
    (ht : t.length ≤ 1099511627776) (hl : Ro w A n c l) (hp : Rp w PA pn pc ps) (hok : okG g) (h0 : 0 ≤ frame) (h1 : frame ≤ 1000000) (hps : ps.length ≤ 1000) :
    Calls Try.prog 16 #[pAgg t A n c, .agg (gcs g), .int .i64 frame, .slice PA pn pc] w fun e w' => e = .returned (.agg (gcs (foldN t l frame g ps))) ∧ Ext w w' := by
  have hg32 := hok.1
  have hmx := hp.max
  have hpn := hp.len
  unfold maxLen at hmx
  unfold pAgg
  have Hpn := Lib.hid hpn
  obtain ⟨G, hG⟩ : ∃ x, foldN t l frame g ps = x := ⟨_, rfl⟩
  have hG32 : G.length = 32 := by rw [← hG]; exact (foldN_ok t l ps frame hok).1
  rw [hG]
  have HG := Lib.hid hG
  have HG32 := Lib.hid hG32
  clear hpn hG hG32
  go_enter Try.func16, Try.ntmps16
  go_wp2_with fail
  obtain ⟨b, hb⟩ : ∃ b, w.heap.size + 1 = b := ⟨_, rfl⟩
  have hb1 : w.heap.size + 1 + 1 = b + 1 := by omega
  have hb2 : w.heap.size < b := by omega
  rw [hb1, hb]
  generalize hV : World.alloc (World.alloc (World.alloc w _) _) _ = V
  have eV : Ext w V := by subst hV; exact ((Ext.alloc _ _).trans (Ext.alloc _ _)).trans (Ext.alloc _ _)
  have bR : Blk V (b + 1) 33 zeroG := by subst hV; exact Blk.new' _ _ (g := zeroG) rfl (by simp; omega)
  have bS : Blk V b 33 g := by subst hV; exact (Blk.new' _ _ hg32 (by simp; omega)).ext (Ext.alloc _ _)
  have c0 : V.cell? ⟨w.heap.size, 0, none⟩ = some (.string (bs t)) := by subst hV; go_simp
  have c1 : V.cell? ⟨w.heap.size, 1, none⟩ = some (.slice A n c) := by subst hV; go_simp
  clear hV hb hb1
  go_loopw [9] (fun iv wr => rfRel t l frame g ps w V w.heap.size b A n c iv wr) (fun iv _ => ps.length - (intOf iv).toNat)
  case atStart => exact ⟨0, rfl, by omega, bS, bR, c0, c1, eV⟩
  case round =>
    obtain ⟨k, rfl, hk, hbk, hbz, d0, d1, he⟩ := hrel
    by_cases hlt : k < pn
    · have hd : decide (k < pn) = true := decide_eq_true hlt
      have hkl : k < ps.length := by have := Hpn.out; omega
      obtain ⟨pb, po, Ai, ni, ci, rfl, hc0, hr0⟩ := hp.at_ hkl
      have hc := he.cell hc0
      have hgo := foldN_ok t l (ps.take k) frame hok
      have hsn := foldN_snoc t l frame g hkl
      have hst := fun W h1 h2 => rstep_any W t A n c l (frame + k) Ai ni ci (ps[k]'hkl) (foldN t l frame g (ps.take k)) ht h1 h2 hgo hsn.symm rfl
      unfold pAgg at hst
      have Hst := Lib.hid hst
      have Hg2 := Lib.hid (foldN_ok t l (ps.take (k + 1)) frame hok).1
      have Hl := Lib.hid (hl.ext he)
      have Hr := Lib.hid (hr0.ext he)
      clear hst hsn hgo hr0 hc0
      obtain ⟨G2, hG2⟩ : ∃ x, foldN t l frame g (ps.take (k + 1)) = x := ⟨_, rfl⟩
      have HG2 := Lib.hid hG2
      rw [hG2] at Hst Hg2
      clear hG2
      generalize (stepN t ps[k] (frame + k) l (foldN t l frame g (ps.take k))).2 = N at *
      generalize foldN t l frame g (ps.take k) = G1 at *
      have hsum : IntKind.i64.wrap (frame + (k : Int)) = frame + (k : Int) := by rw [IntKind.wrap_i64]; omega
      have hix : (0 : Int) ≤ (k : Int) ∧ (k : Int) < (pn : Int) := by omega
      go_wp2_with fail
      apply wp_region_lexS (F1 := 99) (F2 := 99) (R := Below wr.heap.size) (Rs := rfRs 33) (J := fun _ _ => True) (by kernel_rfl) (by kernel_rfl) (Below.refl _) (fun _ _ W => rfRs.ext (Ext.refl W)) (fun _ _ => Below.size) (fun _ _ _ _ _ _ _ _ _ => trivial) (fun _ _ _ => Below.trans) (Ext.drew _) (fun _ => trivial)
      intro σ
      repeat
        apply lexS_ex (by decide) (by decide) (Below.refl _) (fun _ _ W => rfRs.ext (Ext.refl W))
        · rfl
        · intro W' hR hJ hΦ
          have hR2 : Ext wr W' := hR
          have d2 := hR2.cell d0
          have d3 := hR2.cell d1
          have d4 := hR2.cell hc
          first
            | exact exec_load_gm 33 _ rfl rfl Try.underlying33 size_game (hbk.gm.ext hR2)
            | (go_simp; first | done | with_reducible rfl)
        simp only [Act.put, List.setIfInBounds_toArray, List.set_cons_zero, List.set_cons_succ]
      apply lexS_callx (u := .tuple #[.agg (gcs G2), .int .i64 (N : Nat)]) (by decide) (by decide)
      · rfl
      · intro W'
        go_simp
        exact ⟨rfl, rfl⟩
      · intro W' hR hJ hΦ
        have hR2 : Ext wr W' := hR
        refine (Hst.out _ (Hl.out.ext hR2) (Hr.out.ext hR2)).mono ?_
        rintro e w' ⟨rfl, h9⟩
        exact ⟨rfl, Below.mono h9 hR.size, rfRs.ext h9⟩
      simp only [Act.put, List.setIfInBounds_toArray, List.set_cons_zero, List.set_cons_succ]
      repeat
        apply lexS_ex (by decide) (by decide) (Below.refl _) (fun _ _ W => rfRs.ext (Ext.refl W))
        · rfl
        · intro W' hR hJ hΦ
          go_simp
          first | done | with_reducible rfl
        simp only [Act.put, List.setIfInBounds_toArray, List.set_cons_zero, List.set_cons_succ]
      apply lexS_new (by decide) (by decide) (rfKeeps13 (T := 33) (m := wr.heap.size))
      · rfl
      · intro W hR hJ hΦ
        refine ⟨.pointer (some ⟨W.heap.size, 0, none⟩), W.alloc (.cells zero32 33), ?_, Below.mono (Ext.alloc _ _) hR.size, rfRs.ext (Ext.alloc _ _), W.heap.size, upd_eq, hR.size, zeroG, Blk.zero _ _ rfl⟩
        go_simp
        first | done | rfl
      simp only [Act.put, List.setIfInBounds_toArray, List.set_cons_zero, List.set_cons_succ]
      apply lexS_store (by decide) (by decide) (rfKeeps14 (T := 33) (g := G2) (by kernel_rfl))
      · rfl
      · intro W hR hJ hΦ
        obtain ⟨g0, hσ, hg0, gg, hblk⟩ := hΦ.1 (by rfl)
        refine ⟨W.setRow g0 (gcs G2), by (refine exec_store_blk 33 (.tmp 10) (.tmp 29) rfl ?_ ?_ hblk Hg2.out size_game; exact hσ; rfl), ?_, rfRs.store hσ hblk Hg2.out, g0, ?_, hblk.setRow Hg2.out⟩
        · exact below_of_grown (row := some g0) ⟨rfl, rfl, rfl, by simp, fun k _ hk => Go.setRow_other W g0 k _ (fun e => hk (by rw [e]))⟩ hR.size (fun k e => by cases e; exact hg0)
        · rw [upd_ne (by decide)]; exact hσ
      simp only [Act.put]
      repeat
        apply lexS_ex (by decide) (by decide) (Below.refl _) (fun _ _ W => rfRs.ext (Ext.refl W))
        · rfl
        · intro W' hR hJ hΦ
          go_simp
          first | done | with_reducible rfl
        simp only [Act.put, List.setIfInBounds_toArray, List.set_cons_zero, List.set_cons_succ]
      refine lexS_nil ?_
      intro W hR hap hΦ
      obtain ⟨g0, hσ, hb14⟩ := hΦ.1 rfl
      obtain ⟨g0', hσ', hg0, _⟩ := hΦ.2.1 rfl
      rw [hσ] at hσ'
      obtain rfl : g0 = g0' := by injection hσ' with h; injection h with h; injection h
      rw [hσ]
      have hR2 : Ext wr W := hR
      have hbg : b < g0 := by have := hbk.lt; omega
      have b1 := hbk.ext hR2
      have z1 := hbz.ext hR2
      have d0 := hR2.cell d0
      have d1 := hR2.cell d1
      have xR := he.trans hR2
      clear hR hΦ hap hσ hσ' hR2 hbk hbz he hc Hst
      go_wp2_with (first
        | (with_reducible refine wpList_load_gm rfl 33 (.tmp 10) rfl rfl Try.underlying33 size_game hb14.gm ?_)
        | ((with_reducible refine wpList_put_game rfl 33 (.tmp 5) (.tmp 31) rfl rfl rfl b1 Hg2.out size_game ?_); intro W3 b4 y4 g4 s4; clear s4; have z4 := z1.grown g4 (by simp); have d0 := g4.cell d0 (by simp; omega); have d1 := g4.cell d1 (by simp; omega); have x4 := y4 w xR (by omega)))
      go_roundw
      case rel => exact ⟨k + 1, by go_num, hkl, by rw [HG2.out]; exact b4, z4, d0, d1, x4⟩
      case measure => simp [intOf]; omega
    · have hd : decide (k < pn) = false := decide_eq_false hlt
      have hkl : k = ps.length := by have := Hpn.out; omega
      subst hkl
      have hfin : foldN t l frame g (ps.take ps.length) = G := by rw [List.take_length]; exact HG.out
      rw [hfin] at hbk
      clear hfin
      go_wp2_with (first
        | (with_reducible refine wpList_load_gm rfl 33 (.tmp 5) rfl rfl Try.underlying33 size_game hbk.gm ?_)
        | (with_reducible refine wpList_store_blk rfl 33 (.tmp 8) (.tmp 32) rfl rfl rfl hbz HG32.out size_game ?_))
      exact bodyPost_ret (v := .agg (gcs G)) (result_gm rfl _ rfl (hbz.setRow HG32.out).gm Try.underlying33 size_game) rfl ⟨rfl, he.setRow (by omega) _⟩
end Go.Proofs.Ytihegdjdgklbgaa
