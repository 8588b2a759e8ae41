/- The walk of the law JudgeTrue. Printed by wip/gen/mkjt.py. -/
import Derived.Test.YtihegdjdgklbgaaJuB
namespace Go.Proofs.Ytihegdjdgklbgaa
set_option maxRecDepth 100000
open Go.RowKit
set_option linter.unusedVariables false

theorem xor_ne {a : UInt8} {z : Nat} (hz : z < 256) (h0 : z ≠ 0) : ∃ v : UInt8, bits BinOp.xor IntKind.u8 (a.toNat : Int) (z : Int) = (v.toNat : Int) ∧ v ≠ a := by
  refine ⟨⟨a.toBitVec ^^^ BitVec.ofNat 8 z⟩, ?_, fun h => ?_⟩
  · have e1 : BitVec.ofInt 8 (a.toNat : Int) = a.toBitVec := by
      rw [BitVec.ofInt_natCast]
      apply BitVec.eq_of_toNat_eq
      simp
    have e2 : BitVec.ofInt 8 (z : Int) = BitVec.ofNat 8 z := BitVec.ofInt_natCast ..
    show IntKind.u8.wrap ((BitVec.ofInt 8 (a.toNat : Int) ^^^ BitVec.ofInt 8 (z : Int)).toNat : Int) = _
    rw [e1, e2]
    have hl : (a.toBitVec ^^^ BitVec.ofNat 8 z).toNat < 256 := BitVec.isLt _
    rw [IntKind.wrap_u8]
    show _ = ((a.toBitVec ^^^ BitVec.ofNat 8 z).toNat : Int)
    omega
  · have h1 : a.toBitVec ^^^ BitVec.ofNat 8 z = a.toBitVec := congrArg UInt8.toBitVec h
    have h2 : a.toBitVec ^^^ (a.toBitVec ^^^ BitVec.ofNat 8 z) = 0#8 := by rw [h1, BitVec.xor_self]
    rw [← BitVec.xor_assoc, BitVec.xor_self, BitVec.zero_xor] at h2
    have h3 := congrArg BitVec.toNat h2
    simp at h3
    omega
/-- The reference's Bytes, and that they lie in new memory. -/
def GOfN (w : World) (g : List Int) (e : Ending) (w' : World) : Prop := ∃ B d, e = .returned (.slice B 128 d) ∧ Rb w' B 128 d (gameL g) ∧ (∀ a, B = some a → w.heap.size ≤ a.block) ∧ Ext w w'
set_option maxHeartbeats 2000000 in
theorem rbytes_new (w : World) (g : List Int) (hok : okG g) : Calls Try.prog 22 #[.agg (gcs g)] w (GOfN w g) := by
  have hg := hok.1
  obtain ⟨i0, hi, hz0, hz1, hz2⟩ := info_parts info_u8
  go_enter Try.func22, Try.ntmps22
  go_wp2_with fail
  go_loopw [3, 4] (fun v iv wr => gbRel w 33 g v iv wr) (fun _ iv _ => 32 - (intOf iv).toNat)
  case atStart => exact ⟨0, none, 0, rfl, rfl, by omega, Own.nil_ _ _ _ _, Blk.new' _ _ hg (by simp), Ext.alloc _ _⟩
  case round =>
    obtain ⟨k, B, d, rfl, rfl, hk, ho, hb, he⟩ := hrel
    by_cases hlt : k < 32
    · have hd : decide (k < 32) = true := decide_eq_true hlt
      have hd2 : decide ((k : Int) < 32) = true := decide_eq_true (by omega)
      have hc := (hb.gm.2 k hlt).1
      have htk := gameL_take (g := g) (k := k) (by omega)
      have hu := uns_conv (g.getD k 0)
      have hul := uns_lt (g.getD k 0)
      generalize g.getD k 0 = x at *
      generalize uns x = n at *
      have Htk := Lib.hid htk
      clear htk
      have hix : (0 : Int) ≤ (k : Int) ∧ (k : Int) < 32 := by omega
      go_wp2_with fail
      refine (rfour_any n wr hul).mono ?_
      rintro e w2 ⟨B2, m2, d2, rfl, ho2, e2⟩
      have hm2 : m2 = 4 := by have := ho2.len; simp at this; rw [bcs_length] at this; simp [fourL] at this; omega
      subst hm2
      have hoo := ho.ext e2
      have hbb := hb.ext e2
      have hsz := he.size
      have hsz2 := e2.size
      have hbl := hb.lt
      clear ho hb hc hu
      go_wp2_with (at_builtin; refine wpList_append_to _ rfl _ _ 43 rfl (w.heap.size + 1) 5 i0 (.int .u8 0) 1 1 Try.underlying43 hi hz0 hz1 hz2 rfl (by decide) B (4 * k) d _ rfl hoo B2 4 d2 _ rfl ho2.rd (bcs_one _) (by unfold maxLen; omega) (by omega) (by omega) ?_; intro B' d' w' ho' hg' hw')
      have hne : blk B ≠ some w.heap.size := fun e => by have := hoo.blk_ge _ e; omega
      go_roundw
      case rel =>
        refine ⟨k + 1, B', d', by rw [Nat.mul_add], by go_num, hlt, ?_, hbb.grown hg' hne, Ext.own (he.trans e2) hg' (fun j hj => by have := hoo.blk_ge j hj; omega)⟩
        rw [Htk.out, bcs_append, Nat.mul_add]; exact ho'
      case measure => simp [intOf]; omega
    · have hd : decide (k < 32) = false := decide_eq_false hlt
      have hd2 : decide ((k : Int) < 32) = false := decide_eq_false (by omega)
      obtain rfl : k = 32 := by omega
      rw [List.take_of_length_le (by omega)] at ho
      have Ho := Lib.hid ho
      clear ho
      go_wp2_with fail
      go_ret
      exact ⟨B, d, rfl, Rb.of Ho.out.rd rfl, fun a ha => by have := (Ho.out.base_le a ha).1; omega, he⟩
/-- A front out of any number. -/
theorem front_of (x : Int) (n : Nat) (hn : n ≤ 8) : ∃ (r : Int) (f : Nat), x.tmod ((n : Int) + 1) = r ∧ (r + (n : Int) + 1).tmod ((n : Int) + 1) = f ∧ f ≤ n ∧ -8 ≤ r ∧ r ≤ 8 ∧ 0 ≤ r + (n : Int) := by
  have h1 : -((n : Int) + 1) < x.tmod ((n : Int) + 1) := Int.lt_tmod_of_pos x (by omega)
  have h2 : x.tmod ((n : Int) + 1) < (n : Int) + 1 := Int.tmod_lt_of_pos x (by omega)
  have h3 : (x.tmod ((n : Int) + 1) + (n : Int) + 1).tmod ((n : Int) + 1) = (x.tmod ((n : Int) + 1) + (n : Int) + 1) % ((n : Int) + 1) := Int.tmod_eq_emod_of_nonneg (by omega)
  have h4 := Int.emod_nonneg (x.tmod ((n : Int) + 1) + (n : Int) + 1) (show (n : Int) + 1 ≠ 0 by omega)
  have h5 := Int.emod_lt_of_pos (x.tmod ((n : Int) + 1) + (n : Int) + 1) (show 0 < (n : Int) + 1 by omega)
  exact ⟨_, ((x.tmod ((n : Int) + 1) + (n : Int) + 1) % ((n : Int) + 1)).toNat, rfl, by rw [h3]; omega, by omega, by omega, by omega, by omega⟩
def GN (t : List UInt8) (l : List OpT) (Q : List (List UInt8)) (f : Nat) : List UInt8 := gameL (foldN t l 0 zeroG (Q.take f))
def jtTold (t : List UInt8) (l : List OpT) (Q : List (List UInt8)) (h : HdT) : ToldT := (Q, h.2.1, GN t l Q h.2.1.toNat)
def jtOne (wr : World) (t : List UInt8) (l : List OpT) (Q : List (List UInt8)) (hB : Option Addr × Nat × Nat) (C : Option Addr) (h : HdT) : Prop :=
  h.1 = hB ∧ (∃ f : Nat, f ≤ Q.length ∧ h.2.1 = (f : Int)) ∧ Rb wr h.2.2.1 h.2.2.2.1 h.2.2.2.2 (GN t l Q h.2.1.toNat) ∧ (∀ a, h.2.2.1 = some a → blk C ≠ some a.block)
def jtRel1 (W0 : World) (t : List UInt8) (l : List OpT) (Q : List (List UInt8)) (hB : Option Addr × Nat × Nat) (N : Nat) (v iv : Value) (wr : World) : Prop :=
  ∃ (i : Nat) (C : Option Addr) (cd : Nat) (hs : List HdT), v = .slice C i cd ∧ iv = .int .i64 (i : Nat) ∧ i ≤ N ∧ i ≤ 5 ∧ Own wr W0.heap.size 51 3 C i cd (tcs hs) ∧ hs.length = i ∧ (∀ h ∈ hs, jtOne wr t l Q hB C h) ∧ Ext W0 wr
theorem jt_step {W0 wr W2 W3 : World} {t : List UInt8} {l : List OpT} {Q : List (List UInt8)} {hB : Option Addr × Nat × Nat} {C C' GB : Option Addr} {i cd gd f : Nat} {hs : List HdT} (e : Ext W0 wr) (ho : Own wr W0.heap.size 51 3 C i cd (tcs hs)) (hh : ∀ h ∈ hs, jtOne wr t l Q hB C h)
    (e2 : Ext wr W2) (hf : f ≤ Q.length) (hg : Rb W2 GB 128 gd (GN t l Q f)) (hnew : ∀ a, GB = some a → wr.heap.size ≤ a.block) (hgr : W2.grownBy W3 (blk C)) (hw : Went W2 C C') :
    ∀ h ∈ hs ++ [(hB, (f : Int), (GB, 128, gd))], jtOne W3 t l Q hB C' h := by
  have hlt : ∀ k, blk C = some k → k < wr.heap.size := fun k hk => by
    obtain ⟨a, ha, rfl⟩ := Option.map_eq_some_iff.1 hk
    exact (ho.base_le a ha).2
  intro h hm
  rcases List.mem_append.1 hm with hm | hm
  · obtain ⟨h1, h2, h3, h4⟩ := hh h hm
    have h5 := h3.ext e2
    refine ⟨h1, h2, Rd.grownP h5 hgr (fun _ => h4), fun a ha hb => ?_⟩
    rcases hw with hw | hw
    · exact h4 a ha (hw ▸ hb)
    · have k1 := hw _ hb
      have hl := h5.len
      have hgl : (GN t l Q h.2.1.toNat).length = 128 := by
        unfold GN
        rw [gameL_len, (foldN_ok t l _ 0 zeroG_ok).1]
      have k2 := Rd.lt h5 (by omega) a ha
      omega
  · obtain rfl := List.mem_singleton.1 hm
    have hne : ∀ a, GB = some a → blk C ≠ some a.block := fun a ha hb => by
      have := hlt _ hb
      have := hnew a ha
      omega
    refine ⟨rfl, ⟨f, hf, rfl⟩, Rd.grownP hg hgr (fun _ => hne), fun a ha hb => ?_⟩
    rcases hw with hw | hw
    · exact hne a ha (hw ▸ hb)
    · have k1 := hw _ hb
      have k2 := Rd.lt hg (by decide) a ha
      omega
theorem jt_all {wr : World} {t : List UInt8} {l : List OpT} {Q : List (List UInt8)} {hB : Option Addr × Nat × Nat} {C : Option Addr} {hs : List HdT} (hh : ∀ h ∈ hs, jtOne wr t l Q hB C h) : agN (hs.map (jtTold t l Q)) = true := by
  rw [agN_iff]
  intro a b x y ha hb hx hy
  rw [List.getElem?_map, Option.map_eq_some_iff] at hx hy
  obtain ⟨p, hp, rfl⟩ := hx
  obtain ⟨q, hq, rfl⟩ := hy
  obtain ⟨_, ⟨f, hf, ef⟩, _⟩ := hh p (List.mem_of_getElem? hp)
  obtain ⟨_, ⟨g, hg, eg⟩, _⟩ := hh q (List.mem_of_getElem? hq)
  unfold jtTold
  rw [ef, eg]
  exact agree_same (G := fun P => gameL (foldN t l 0 zeroG P)) hf hg
theorem jt_rt {wr : World} {t : List UInt8} {l : List OpT} {Q : List (List UInt8)} {hB : Option Addr × Nat × Nat} {C : Option Addr} {base i cd : Nat} {hs : List HdT} (hp : Rp wr hB.1 hB.2.1 hB.2.2 Q) (ho : Own wr base 51 3 C i cd (tcs hs)) (hh : ∀ h ∈ hs, jtOne wr t l Q hB C h) : Rt wr C i cd (hs.map (jtTold t l Q)) := by
  refine ⟨hs, ho.rd, by simp, fun j h x hj hx => ?_⟩
  obtain ⟨h1, _, h3, _⟩ := hh h (List.mem_of_getElem? hj)
  rw [List.getElem?_map, hj] at hx
  obtain rfl : jtTold t l Q h = x := by simpa using hx
  exact ⟨by rw [h1]; exact hp, rfl, h3⟩
theorem jt_right {t : List UInt8} {l : List OpT} {Q : List (List UInt8)} {f : Nat} (hf : f ≤ Q.length) : rightT t l (Q, (f : Int), GN t l Q f) = true := by
  unfold rightT mayT GN
  simp
  omega
def jtRel2 (w5 : World) (N : Nat) (v : Value) (wr : World) : Prop := ∃ j : Nat, v = .int .i64 (j : Nat) ∧ j ≤ N ∧ Ext w5 wr
abbrev HdB := Option Addr × Nat × Nat
/-- Copies, each in a block of its own, none in the block of their headers. -/
def Copies (wr wL : World) (D : Option Addr) (hs : List HdB) (Q : List (List UInt8)) : Prop :=
  ∀ (j : Nat) h, hs[j]? = some h → (∃ p, Q[j]? = some p ∧ Own wr wL.heap.size 5 1 h.1 h.2.1 h.2.2 (bcs p)) ∧ (∀ a, h.1 = some a → blk D ≠ some a.block) ∧ (∀ (j' : Nat) h', j' < j → hs[j']? = some h' → ∀ a, h.1 = some a → blk h'.1 ≠ some a.block)
def jtRel3 (wL : World) (Q : List (List UInt8)) (v iv : Value) (wr : World) : Prop :=
  ∃ (i : Nat) (D : Option Addr) (dd : Nat) (hs : List HdB), v = .slice D i dd ∧ iv = .int .i64 (i : Nat) ∧ i ≤ Q.length ∧ Own wr wL.heap.size 43 1 D i dd (hs.map hdr) ∧ hs.length = i ∧ Copies wr wL D hs Q ∧ Ext wL wr
theorem copies_step {wL wr W2 W3 : World} {D D' E : Option Addr} {i dd m d : Nat} {hs : List HdB} {Q : List (List UInt8)} {p : List UInt8} (e : Ext wL wr) (ho : Own wr wL.heap.size 43 1 D i dd (hs.map hdr)) (hl : hs.length = i) (hc : Copies wr wL D hs Q) (hp : Q[i]? = some p)
    (e2 : Ext wr W2) (hE : Own W2 wr.heap.size 5 1 E m d (bcs p)) (hgr : W2.grownBy W3 (blk D)) (hw : Went W2 D D') : Copies W3 wL D' (hs ++ [(E, m, d)]) Q := by
  have hlt : ∀ k, blk D = some k → k < wr.heap.size := fun k hk => by
    obtain ⟨a, ha, rfl⟩ := Option.map_eq_some_iff.1 hk
    exact (ho.base_le a ha).2
  have hkeep : ∀ (A : Option Addr) (n c : Nat) (xs : List Value) (base : Nat), Own W2 base 5 1 A n c xs → (∀ a, A = some a → blk D ≠ some a.block) → Own W3 base 5 1 A n c xs := fun A n c xs base h hne => h.kept hgr (by
    cases A with
    | none => exact .inl rfl
    | some a => exact .inr (fun e => hne a rfl e.symm))
  have hD' : ∀ (A : Option Addr) (n c : Nat) (xs : List Value) (base : Nat), Own W2 base 5 1 A n c xs → (∀ a, A = some a → blk D ≠ some a.block) → ∀ a, A = some a → blk D' ≠ some a.block := fun A n c xs base h hne a ha hb => by
    rcases hw with hw | hw
    · exact hne a ha (hw ▸ hb)
    · have k1 := hw _ hb
      have k2 := (h.base_le a ha).2
      omega
  intro j h hj
  by_cases hjl : j < hs.length
  · rw [List.getElem?_append_left hjl] at hj
    obtain ⟨⟨q, hq, h1⟩, h2, h3⟩ := hc j h hj
    refine ⟨⟨q, hq, hkeep _ _ _ _ _ (h1.ext e2) h2⟩, hD' _ _ _ _ _ (h1.ext e2) h2, fun j' h' hjj hj' a ha => ?_⟩
    rw [List.getElem?_append_left (by omega)] at hj'
    exact h3 j' h' hjj hj' a ha
  · rw [List.getElem?_append_right (by omega)] at hj
    have hj0 : j - hs.length = 0 := by
      have := (List.getElem?_eq_some_iff.1 hj).1
      simp at this; omega
    rw [hj0] at hj
    obtain rfl : (E, m, d) = h := by simpa using hj
    have hji : j = i := by omega
    subst hji
    have hne : ∀ a, E = some a → blk D ≠ some a.block := fun a ha hb => by
      have := hlt _ hb
      have := (hE.base_le a ha).1
      omega
    refine ⟨⟨p, hp, (hkeep _ _ _ _ _ hE hne).mono e.size⟩, hD' _ _ _ _ _ hE hne, fun j' h' hjj hj' a ha hb => ?_⟩
    rw [List.getElem?_append_left (by omega)] at hj'
    obtain ⟨⟨q, hq, h1⟩, _, _⟩ := hc j' h' hj'
    obtain ⟨a', ha', hb'⟩ := Option.map_eq_some_iff.1 hb
    have k1 := (h1.base_le a' ha').2
    have k2 := (hE.base_le a ha).1
    omega
theorem own_free {w : World} {base : Nat} {e : TypeId} {size : Nat} {g o : Nat} {n c : Nat} {xs : List Value} (h : Own w base e size (some ⟨g, o, none⟩) n c xs) (k : Nat) : w.frozen? ⟨g, k, none⟩ = false := by
  rcases h.2 with ⟨hv, _⟩ | ⟨g', cap, cur, hv, _, hg, _⟩
  · injection hv with h1; cases h1
  · injection hv with h1
    cases h1
    simp [World.frozen?, hg]
theorem rb_set {w : World} {g o n c : Nat} {l : List UInt8} (h : Rb w (some ⟨g, o, none⟩) n c l) (v : UInt8) : Rb (w.setCell ⟨g, o, none⟩ (.int .u8 (v.toNat : Int))) (some ⟨g, o, none⟩) n c (l.set 0 v) := by
  have hl := h.len
  refine ⟨by rw [bcs_length, List.length_set]; omega, h.2.1, h.2.2.1, fun hn => ⟨g, o, rfl, fun j u hu => ?_⟩⟩
  obtain ⟨b', o', e, hc⟩ := h.2.2.2 hn
  cases e
  have hj : j < l.length := by have := (List.getElem?_eq_some_iff.1 hu).1; rw [bcs_length, List.length_set] at this; exact this
  have hjc := hc j _ (bcs_get hj)
  rw [bcs_get (by rw [List.length_set]; exact hj)] at hu
  cases hu
  by_cases e : j = 0
  · subst e
    rw [List.getElem_set_self]
    exact World.cell?_setCell_same _ _ _ hjc
  · rw [List.getElem_set_ne (fun e' => e e'.symm)]
    rw [World.cell?_setCell_other _ _ _ _ (by intro e'; injection e' with _ h2 _; omega)]
    exact hjc
/-- A byte turned in one of the copies. -/
theorem copies_set {wL wr : World} {D : Option Addr} {dd K g o m d : Nat} {hs : List HdB} {Q : List (List UInt8)} {p : List UInt8} (ho : Own wr wL.heap.size 43 1 D Q.length dd (hs.map hdr)) (hl : hs.length = Q.length) (hc : Copies wr wL D hs Q) (hK : hs[K]? = some (some ⟨g, o, none⟩, m, d)) (hp : Q[K]? = some p) (v : UInt8) :
    Rp (wr.setCell ⟨g, o, none⟩ (.int .u8 (v.toNat : Int))) D Q.length dd (Q.set K (p.set 0 v)) := by
  obtain ⟨⟨q, hq, hown⟩, hD, hpw⟩ := hc K _ hK
  rw [hp] at hq
  obtain rfl := Option.some.inj hq
  have hgr := grown_setG wr g o (.int .u8 (v.toNat : Int))
  refine ⟨hs, Rd.grownP ho.rd hgr (fun _ a ha e => hD _ rfl (by subst ha; exact e.symm)), by simp [hl], fun j h x hj hx => ?_⟩
  by_cases hjK : j = K
  · subst hjK
    rw [hK] at hj
    obtain rfl := Option.some.inj hj
    have hlt := (List.getElem?_eq_some_iff.1 hp).1
    rw [List.getElem?_set_self hlt] at hx
    obtain rfl := Option.some.inj hx
    exact rb_set hown.rd v
  · rw [List.getElem?_set_ne (fun e => hjK e.symm)] at hx
    obtain ⟨⟨q', hq', hown'⟩, _, hpw'⟩ := hc j h hj
    rw [hx] at hq'
    obtain rfl := Option.some.inj hq'
    refine Rd.grownP hown'.rd hgr (fun _ a ha e => ?_)
    have hga : g = a.block := Option.some.inj e
    rcases Nat.lt_or_ge j K with hlt | hge
    · exact hpw j h hlt hj _ rfl (by rw [ha, hga]; rfl)
    · exact hpw' K _ (by omega) hK a ha (by rw [← hga]; rfl)
set_option maxRecDepth 100000 in
set_option maxHeartbeats 8000000 in
theorem true_walk (w : World) (t : List UInt8) (A : Option Addr) (n c : Nat) (l : List OpT) (ht : t.length ≤ maxLen) (hl : Ro w A n c l) (_hok : ∀ o ∈ l, okO o)
    (PA : Option Addr) (pn pc : Nat) (ps : List (List UInt8)) (hp : Rp w PA pn pc ps) (FA : Option Addr) (fn fc : Nat) (F : List Int) (hF : Ri w .i64 FA fn fc F)
    (at_ : Int) (at0 : -9223372036854775808 ≤ at_) (at1 : at_ ≤ 9223372036854775807) (z : Nat) (hz : z < 256) :
    Calls Try.prog 8 #[pAgg t A n c, .slice PA pn pc, .slice FA fn fc, .int .i64 at_, .int .u8 (z : Nat)] w (Yes w) := by
  have hcut := fun W => pcut_any W t A n c 30 ht hl.max
  have hl' := hl.min_ 30
  have htl : (t.take 40).length ≤ 1099511627776 := by rw [List.length_take]; omega
  have hpr := fun W e => presses_any w W e PA pn pc ps 8 hp (by decide)
  obtain ⟨Q, hQ⟩ : ∃ Q, (ps.take 8).map (·.take 9) = Q := ⟨_, rfl⟩
  have hQl : Q.length ≤ 8 := by subst hQ; simp; omega
  have hQ9 : ∀ p ∈ Q, p.length ≤ 9 := by
    subst hQ
    intro p hp
    obtain ⟨u, _, rfl⟩ := List.mem_map.1 hp
    simp; omega
  unfold PressesOf at hpr
  rw [hQ] at hpr
  unfold pAgg at hcut ⊢
  have Hcut := Lib.hid hcut
  have Hpr := Lib.hid hpr
  have HQ9 := Lib.hid hQ9
  have HF := Lib.hid hF
  have Hfn := Lib.hid (show fn = F.length by have := hF.1.1; simp at this; omega)
  have hfx : fn ≤ fc ∧ fc ≤ maxLen := ⟨hF.1.2.1, hF.1.2.2.1⟩
  unfold maxLen at hfx
  clear hcut hpr hl hQ _hok hQ9 hF
  generalize t.take 40 = t' at *
  generalize l.take 30 = l' at *
  generalize min n 30 = n' at *
  go_enter Try.func8, Try.ntmps8
  go_wp2_with fail
  refine (begun28_any _).mono ?_
  rintro e w1 ⟨rfl, e1⟩
  have c0 := e1.cell (show (w.alloc (.cells #[.string (bs t), .slice A n c] 24)).cell? ⟨w.heap.size, 0, none⟩ = some (.string (bs t)) by go_simp)
  have c1 := e1.cell (show (w.alloc (.cells #[.string (bs t), .slice A n c] 24)).cell? ⟨w.heap.size, 1, none⟩ = some (.slice A n c) by go_simp)
  have f0 : w1.frozen? ⟨w.heap.size, 0, none⟩ = false := by rw [e1.frozen (by simp)]; go_simp
  have f1 : w1.frozen? ⟨w.heap.size, 1, none⟩ = false := by rw [e1.frozen (by simp)]; go_simp
  have x1 := (Ext.alloc w _).trans e1
  have s1 : w.heap.size < w1.heap.size := World.block_lt_of_cell? w1 _ c0
  clear e1
  go_wp2_with fail
  refine (Hcut.out _).mono ?_
  rintro e w2 ⟨rfl, e2⟩
  have c0 := e2.cell c0
  have c1 := e2.cell c1
  have f0 : w2.frozen? ⟨w.heap.size, 0, none⟩ = false := by rw [e2.frozen s1]; exact f0
  have f1 : w2.frozen? ⟨w.heap.size, 1, none⟩ = false := by rw [e2.frozen s1]; exact f1
  have x2 := x1.trans e2
  have s2 : w.heap.size < w2.heap.size := World.block_lt_of_cell? w2 _ c0
  clear e2 s1 x1
  go_wp2_with fail
  refine (Hpr.out _ x2).mono ?_
  rintro e w3 ⟨B, m0, cp0, rfl, q3, e3⟩
  have c0 := e3.cell c0
  have c1 := e3.cell c1
  have f0 : w3.frozen? ⟨w.heap.size, 0, none⟩ = false := by rw [e3.frozen s2]; exact f0
  have f1 : w3.frozen? ⟨w.heap.size, 1, none⟩ = false := by rw [e3.frozen s2]; exact f1
  have x3 := x2.trans e3
  have s3 : w.heap.size < w3.heap.size := World.block_lt_of_cell? w3 _ c0
  have hm := q3.rp.len
  have hmx := q3.rp.max
  unfold maxLen at hmx
  subst hm
  clear hp
  go_wp2_with fail
  generalize hW0 : World.setCell (World.setCell w3 _ _) _ _ = W0
  have x0 : Ext w W0 := by subst hW0; exact (x3.setCell (Nat.le_refl _) _).setCell (Nat.le_refl _) _
  have d0 : W0.cell? ⟨w.heap.size, 0, none⟩ = some (.string (bs t')) := by subst hW0; go_simp
  have d1 : W0.cell? ⟨w.heap.size, 1, none⟩ = some (.slice A n' c) := by subst hW0; go_simp
  have r0 : Rp W0 B Q.length cp0 Q := by subst hW0; exact ((q3.keep (grown_setG _ _ _ _) (Nat.le_refl _) s2).keep (grown_setG _ _ _ _) (Nat.le_refl _) s2).rp
  clear hW0 c0 c1 f0 f1 x2 x3 s3 e3 Hcut q3 s2 Hpr
  generalize w.heap.size = bp at *
  have Hr0 := Lib.hid r0
  have Hro := Lib.hid (hl'.ext x0)
  clear r0 hl'
  obtain ⟨i0, hi, hz0, hz1, hz2⟩ := info_parts info_told
  go_loopw [12, 13] (fun v iv wr => jtRel1 W0 t' l' Q (B, Q.length, cp0) F.length v iv wr) (fun _ iv _ => 5 - (intOf iv).toNat)
  case atStart => exact ⟨0, none, 0, [], rfl, rfl, by omega, by omega, Own.nil_ _ _ _ _, rfl, by simp, Ext.refl _⟩
  case round =>
    obtain ⟨i, C, cd, hs, rfl, rfl, hi1, hi2, ho, hl, hh, he⟩ := hrel
    have Hl := Lib.hid hl
    have Hh := Lib.hid hh
    have Ho := Lib.hid ho
    clear hl hh ho
    have d0 := he.cell d0
    have d1 := he.cell d1
    by_cases hg : i < fn ∧ i < 5
    · have hd1 : decide (i < fn) = true := decide_eq_true hg.1
      have hd2 : decide (i < 5) = true := decide_eq_true hg.2
      have hd3 : decide ((i : Int) < 5) = true := decide_eq_true (by omega)
      have hif : i < F.length := by have := Hfn.out; omega
      have hixf : i < fn := hg.1
      have hix : (0 : Int) ≤ (i : Int) ∧ (i : Int) < (fn : Int) := by omega
      obtain ⟨fb, fo, rfl, u, hu, fc0⟩ := HF.out.1.at_ hixf
      rw [List.getElem?_map, List.getElem?_eq_getElem hif] at hu
      obtain rfl := Option.some.inj hu
      have fc1 := he.cell (x0.cell fc0)
      clear hu fc0
      obtain ⟨r, f, hr1, hr2, hfl, hr3, hr4, hr5⟩ := front_of F[i] Q.length hQl
      generalize F[i] = fx at *
      have hnz : ((Q.length : Int) + 1 = 0) = False := eq_false (by omega)
      have hfc : f ≤ cp0 := by omega
      have hfc2 : (0 : Int) ≤ (f : Int) ∧ (f : Int) ≤ (cp0 : Int) := by omega
      have hfo := fun W h1 h2 => rfold_any W t' A n' c l' 0 B f cp0 (Q.take f) zeroG htl h1 h2 zeroG_ok (by decide) (by decide) (by rw [List.length_take]; omega)
      have hok := foldN_ok t' l' (Q.take f) 0 zeroG_ok
      have hGN : gameL (foldN t' l' 0 zeroG (Q.take f)) = GN t' l' Q f := rfl
      have hby := fun W => rbytes_new W _ hok
      unfold GOfN at hby
      rw [hGN] at hby
      generalize foldN t' l' 0 zeroG (Q.take f) = G at *
      unfold pAgg at hfo
      have Hfo := Lib.hid hfo
      have Hby := Lib.hid hby
      clear hfo hby hok hGN
      go_wp2_with fail
      apply wp_region_lex_tails 12 (R := Ext) (by decide) (by kernel_rfl) (by kernel_rfl) (by kernel_rfl) Ext.refl (fun _ _ _ => Ext.trans) (Ext.drew _)
      simp only [List.take_succ_cons, List.take_zero]
      repeat
        first
          | (apply lex_ex Ext.refl
             · rfl
             · intro W' hR hΦ
               have y0 := hR.cell d0
               have y1 := hR.cell d1
               go_simp
               first | done | with_reducible rfl)
          | (apply lex_skip
             · rfl)
        simp only [Act.put, List.setIfInBounds_toArray, List.set_cons_zero, List.set_cons_succ]
      apply lex_callx
      · rfl
      · intro W'
        go_simp
        exact ⟨rfl, rfl⟩
      · intro W' hR hΦ
        exact (Hfo.out _ (Hro.out.ext (he.trans hR)) (((Hr0.out.ext he).ext hR).take hfl)).mono fun _ _ h => h
      simp only [Act.put, List.setIfInBounds_toArray, List.set_cons_zero, List.set_cons_succ]
      apply lex_call (p := fun u W => ∃ B' d', u = .slice B' 128 d' ∧ Rb W B' 128 d' (GN t' l' Q f) ∧ (∀ a, B' = some a → wr.heap.size ≤ a.block)) (fun _ _ _ ⟨B', d', h1, h2, h3⟩ e => ⟨B', d', h1, h2.ext e, h3⟩)
      · rfl
      · intro W'
        go_simp
        exact ⟨rfl, rfl⟩
      · intro W' hR hΦ
        refine (Hby.out W').mono ?_
        rintro e w' ⟨B', d', rfl, h1, h2, h3⟩
        exact ⟨_, rfl, h3, B', d', rfl, h1, fun a ha => Nat.le_trans hR.size (h2 a ha)⟩
      intro ev
      simp only [Act.put, List.setIfInBounds_toArray, List.set_cons_zero, List.set_cons_succ]
      apply lex_rel (p := fun u W => ∃ B' d', u = .agg #[.slice B Q.length cp0, .int .i64 (f : Nat), .slice B' 128 d'] ∧ Rb W B' 128 d' (GN t' l' Q f) ∧ (∀ a, B' = some a → wr.heap.size ≤ a.block)) Ext.refl (fun _ _ _ ⟨B', d', h1, h2, h3⟩ e => ⟨B', d', h1, h2.ext e, h3⟩)
      · rfl
      · intro W' hR hΦ
        obtain ⟨B', d', rfl, hr, hnw⟩ := hΦ.1 rfl
        refine ⟨.agg #[.slice B Q.length cp0, .int .i64 (f : Nat), .slice B' 128 d'], ?_, B', d', rfl, hr, hnw⟩
        go_simp
        first | done | with_reducible rfl
      intro av
      simp only [Act.put, List.setIfInBounds_toArray, List.set_cons_zero, List.set_cons_succ]
      apply lex_new (p := fun u W => ∃ b0 B' d', u = .slice (some ⟨b0, 0, none⟩) 1 1 ∧ Rd W 3 (some ⟨b0, 0, none⟩) 1 1 [.slice B Q.length cp0, .int .i64 (f : Nat), .slice B' 128 d'] ∧ Rb W B' 128 d' (GN t' l' Q f) ∧ (∀ a, B' = some a → wr.heap.size ≤ a.block)) (fun _ _ _ ⟨b0, B', d', h1, h2, h3, h4⟩ e => ⟨b0, B', d', h1, h2.ext e, h3.ext e, h4⟩)
      · rfl
      · intro W hR hΦ
        obtain ⟨B', d', rfl, hr, hnw⟩ := hΦ.1 rfl
        refine ⟨.slice (some ⟨W.heap.size, 0, none⟩) 1 1, W.alloc (.cells #[.slice B Q.length cp0, .int .i64 (f : Nat), .slice B' 128 d'] 51), ?_, Ext.alloc _ _, W.heap.size, B', d', rfl, Rd.made W 51 3 [.slice B Q.length cp0, .int .i64 (f : Nat), .slice B' 128 d'] 1 rfl (by decide), hr.ext (Ext.alloc _ _), hnw⟩
        go_simp
        first | done | rfl
      intro sv
      simp only [Act.put, List.setIfInBounds_toArray, List.set_cons_zero, List.set_cons_succ]
      refine lex_nil ?_
      intro W2 hR2 hΦ
      obtain ⟨b0, GB, gd, rfl, hrd, hgb, hnew⟩ := hΦ.1 rfl
      simp only [List.drop_succ_cons, List.drop_zero]
      clear hΦ
      have Hrd := Lib.hid hrd
      have Hgb := Lib.hid hgb
      have Hnew := Lib.hid hnew
      clear hrd hgb hnew
      go_wp2_with (at_builtin; refine wpList_append_to _ rfl _ _ 48 rfl W0.heap.size 51 i0 (.agg #[.slice none 0 0, .int .i64 0, .slice none 0 0]) 3 56 Try.underlying48 hi hz0 hz1 hz2 rfl (by decide) C i cd _ rfl (Ho.out.ext hR2) _ 1 1 (tcells ((B, Q.length, cp0), (f : Int), (GB, 128, gd))) rfl Hrd.out (tcells_one _) (by unfold maxLen; omega) (by omega) (he.trans hR2).size ?_; intro C' cd' w' ho' hg' hw')
      go_roundw
      case rel =>
        refine ⟨i + 1, C', cd', hs ++ [((B, Q.length, cp0), (f : Int), (GB, 128, gd))], rfl, by go_num, hif, by omega, ?_, by simp; exact Hl.out, jt_step he Ho.out Hh.out hR2 hfl Hgb.out Hnew.out hg' (Went.of hw'), Ext.own (he.trans hR2) hg' Ho.out.blk_ge⟩
        rw [tcs_app, tcs_single]; exact ho'
      case measure => simp [intOf]; omega
    · have hag : agN (hs.map (jtTold t' l' Q)) = true := jt_all Hh.out
      have hrt0 : Rt wr C i cd (hs.map (jtTold t' l' Q)) := jt_rt (Hr0.out.ext he) Ho.out Hh.out
      have hall := fun W (hR : Ext wr W) => agree_any W C i cd (hs.map (jtTold t' l' Q)) (hrt0.ext hR)
      rw [hag] at hall
      have Hall := Lib.hid hall
      have Hrt0 := Lib.hid hrt0
      have hcx := Ho.out.rd.2.1
      have hcx2 := Ho.out.rd.2.2.1
      unfold maxLen at hcx2
      clear hag hrt0 hall
      have hxr : ∀ (j : Nat) (hj : j < hs.length), ∃ f : Nat, f ≤ Q.length ∧ (hs[j]).2.1 = (f : Int) := fun j hj => (Hh.out _ (List.getElem_mem hj)).2.1
      have Hxr := Lib.hid hxr
      clear hxr Hh Ho
      by_cases hg1 : i < fn
      · have hd1 : decide (i < fn) = true := decide_eq_true hg1
        have hd2 : decide (i < 5) = false := decide_eq_false (fun h => hg ⟨hg1, h⟩)
        have hd3 : decide ((i : Int) < 5) = false := decide_eq_false (fun h => hg ⟨hg1, by omega⟩)
        clear hg
        go_wp2_with fail
        refine Calls.mono (Hall.out _ (Ext.refl _)) ?_
        rintro e w5 ⟨rfl, e5⟩
        have d0 := e5.cell d0
        have d1 := e5.cell d1
        have x5 := x0.trans (he.trans e5)
        have Hr0 := Lib.hid ((Hr0.out.ext he).ext e5)
        have Hro := Lib.hid ((Hro.out.ext he).ext e5)
        have Hrt0 := Lib.hid (Hrt0.out.ext e5)
        clear Hall he e5 HF x0
        go_wp2_with fail
        go_loopw [15] (fun v wr2 => jtRel2 w5 i v wr2) (fun v _ => i - (intOf v).toNat)
        case atStart => exact ⟨0, rfl, by omega, Ext.refl _⟩
        case round =>
          obtain ⟨j, rfl, hj, e2⟩ := hrel
          have d0 := e2.cell d0
          have d1 := e2.cell d1
          by_cases hji : j < i
          · have hd6 : decide (j < i) = true := decide_eq_true hji
            have hjl : j < hs.length := by have := Hl.out; omega
            have hjx : (0 : Int) ≤ (j : Int) ∧ (j : Int) < (i : Int) := by omega
            obtain ⟨f, hf, ef⟩ := Hxr.out j hjl
            have hjm : j < (hs.map (jtTold t' l' Q)).length := by simpa using hjl
            have hget : (hs.map (jtTold t' l' Q))[j]'hjm = (Q, (f : Int), GN t' l' Q f) := by
              rw [List.getElem_map]
              unfold jtTold
              rw [ef]
              rfl
            obtain ⟨gb, go, QA, qn, qc, GB, gm, gd, rfl, k0, k1, k2, hp', hg'⟩ := Hrt0.out.at_ (k := j) hjm
            rw [hget] at k1 hp' hg'
            have k0 := e2.cell k0
            have k1 := e2.cell k1
            have k2 := e2.cell k2
            have hri := fun W (hR : Ext w5 W) => right_any W t' A n' c l' htl (Hro.out.ext hR) QA qn qc (f : Int) GB gm gd Q (GN t' l' Q f) (hp'.ext hR) (hg'.ext hR) (by omega)
            rw [jt_right hf] at hri
            unfold pAgg tAgg at hri
            have Hri := Lib.hid hri
            clear hri hget hp' hg' ef
            go_wp2_with fail
            apply wp_region_lex (R := Ext) (by kernel_rfl) (by kernel_rfl) Ext.refl (fun _ _ _ => Ext.trans) (Ext.drew _)
            repeat
              first
                | (apply lex_ex Ext.refl
                   · rfl
                   · intro W' hR hΦ
                     have y0 := hR.cell d0
                     have y1 := hR.cell d1
                     have y2 := hR.cell k0
                     have y3 := hR.cell k1
                     have y4 := hR.cell k2
                     go_simp
                     first | done | with_reducible rfl)
                | (apply lex_skip
                   · rfl)
              simp only [Act.put, List.setIfInBounds_toArray, List.set_cons_zero, List.set_cons_succ]
            apply lex_callx
            · rfl
            · intro W'
              go_simp
              exact ⟨rfl, rfl⟩
            · intro W' hR hΦ
              exact (Hri.out _ (e2.trans hR)).mono fun _ _ h => h
            simp only [Act.put, List.setIfInBounds_toArray, List.set_cons_zero, List.set_cons_succ]
            repeat
              first
                | (apply lex_ex Ext.refl
                   · rfl
                   · intro W' hR hΦ
                     have y0 := hR.cell d0
                     have y1 := hR.cell d1
                     have y2 := hR.cell k0
                     have y3 := hR.cell k1
                     have y4 := hR.cell k2
                     go_simp
                     first | done | with_reducible rfl)
                | (apply lex_skip
                   · rfl)
              simp only [Act.put, List.setIfInBounds_toArray, List.set_cons_zero, List.set_cons_succ]
            refine lex_nil ?_
            intro W5 hR5 hΦ
            clear hΦ
            go_wp2_with fail
            go_roundw
            case rel => exact ⟨j + 1, by go_num, hji, e2.trans hR5⟩
            case measure => simp [intOf]; omega
          · have hd6 : decide (j < i) = false := decide_eq_false hji
            have xq := x5.trans e2
            have Hr0 := Lib.hid (Hr0.out.ext e2)
            clear Hrt0 Hxr Hl x5 e2
            by_cases h2 : i < 2
            · have a1 : decide (i < 2) = true := decide_eq_true h2
              have a2 : decide ((i : Int) < 2) = true := decide_eq_true (by omega)
              go_wp2_with fail
              go_ret
              exact ⟨rfl, xq⟩
            have a1 : decide (i < 2) = false := decide_eq_false h2
            have a2 : decide ((i : Int) < 2) = false := decide_eq_false (by omega)
            by_cases hq0 : Q.length = 0
            · have a3 : (Q.length == 0) = true := by rw [beq_iff_eq]; exact hq0
              have a4 : ((Q.length : Int) == 0) = true := by rw [beq_iff_eq]; omega
              go_wp2_with fail
              go_ret
              exact ⟨rfl, xq⟩
            have a3 : (Q.length == 0) = false := by rw [beq_eq_false_iff_ne]; exact hq0
            have a4 : ((Q.length : Int) == 0) = false := by rw [beq_eq_false_iff_ne]; omega
            by_cases hat : at_ < 0
            · have a5 : decide (at_ < 0) = true := decide_eq_true hat
              go_wp2_with fail
              go_ret
              exact ⟨rfl, xq⟩
            have a5 : decide (at_ < 0) = false := decide_eq_false hat
            by_cases hzz : z = 0
            · have a6 : (z == 0) = true := by rw [beq_iff_eq]; exact hzz
              have a7 : ((z : Int) == 0) = true := by rw [beq_iff_eq]; omega
              go_wp2_with fail
              go_ret
              exact ⟨rfl, xq⟩
            have a6 : (z == 0) = false := by rw [beq_eq_false_iff_ne]; exact hzz
            have a7 : ((z : Int) == 0) = false := by rw [beq_eq_false_iff_ne]; omega
            obtain ⟨X, rfl⟩ := Int.eq_ofNat_of_zero_le (show 0 ≤ at_ by omega)
            obtain ⟨K, hK, hmod⟩ : ∃ K : Nat, K < Q.length ∧ ((X : Int)).tmod (Q.length : Int) = (K : Nat) := ⟨X % Q.length, Nat.mod_lt _ (by omega), by rw [Int.tmod_eq_emod_of_nonneg (by omega)]; simp⟩
            have hnz : ((Q.length : Int) = 0) = False := eq_false (by omega)
            have hKx : (0 : Int) ≤ (K : Int) ∧ (K : Int) < (Q.length : Int) := by omega
            obtain ⟨pb, po, Ai, ni, ci, rfl, hcK, hrK⟩ := Hr0.out.at_ hK
            have hpK : Q[K]? = some Q[K] := List.getElem?_eq_getElem hK
            generalize Q[K] = p at *
            have hnp := hrK.len
            have HpK := Lib.hid hpK
            have Hnp := Lib.hid hnp
            clear hrK hpK hnp
            by_cases hn0 : ni = 0
            · have a8 : (ni == 0) = true := by rw [beq_iff_eq]; exact hn0
              have a9 : ((ni : Int) == 0) = true := by rw [beq_iff_eq]; omega
              go_wp2_with fail
              go_ret
              exact ⟨rfl, xq⟩
            have a8 : (ni == 0) = false := by rw [beq_eq_false_iff_ne]; exact hn0
            have a9 : ((ni : Int) == 0) = false := by rw [beq_eq_false_iff_ne]; omega
            obtain ⟨i1, hi', hz0', hz1', hz2'⟩ := info_parts info_u8
            obtain ⟨i2, hi'', hz0'', hz1'', hz2''⟩ := info_parts info_bytes
            go_wp2_with fail
            obtain ⟨wL, rfl⟩ : ∃ x : World, x = wr := ⟨_, rfl⟩
            go_loopw [17, 18] (fun v iv wr3 => jtRel3 wL Q v iv wr3) (fun _ iv _ => Q.length - (intOf iv).toNat)
            case atStart => exact ⟨0, none, 0, [], rfl, rfl, by omega, Own.nil_ _ _ _ _, rfl, fun j h hj => by simp at hj, Ext.refl _⟩
            case round =>
              obtain ⟨i3, D, dd, hs3, rfl, rfl, hi3, ho3, hl3, hc3, he3⟩ := hrel
              have Hl3 := Lib.hid hl3
              have Hc3 := Lib.hid hc3
              clear hl3 hc3
              by_cases hlt3 : i3 < Q.length
              · have hd7 : decide (i3 < Q.length) = true := decide_eq_true hlt3
                have hx3 : (0 : Int) ≤ (i3 : Int) ∧ (i3 : Int) < (Q.length : Int) := by omega
                obtain ⟨pb', po', Ai', ni', ci', hB', hc', hr'⟩ := Hr0.out.at_ hlt3
                cases hB'
                have h9 := HQ9.out _ (List.getElem_mem hlt3)
                have hpi : Q[i3]? = some Q[i3] := List.getElem?_eq_getElem hlt3
                generalize Q[i3] = p' at *
                have hc' := he3.cell hc'
                have hr' := hr'.ext he3
                have hn' := hr'.len
                have Hn' := Lib.hid hn'
                have Hpi := Lib.hid hpi
                have Hr' := Lib.hid hr'
                have hn9 : ni' ≤ 9 := by omega
                have hsz3 := he3.size
                clear hn' hpi hr'
                go_wp2_with (at_builtin; first
                  | (refine wpList_append_nil _ rfl _ _ 43 rfl _ 5 i1 (.int .u8 0) 1 1 Try.underlying43 hi' hz0' hz1' hz2' rfl (by decide) rfl Ai' ni' ci' _ rfl Hr'.out (bcs_one _) (by unfold maxLen; omega) (by omega) (Nat.le_refl _) ?_; intro E de w6 hE e6)
                  | (refine wpList_append_new _ rfl _ _ 26 rfl wL.heap.size 43 i2 (.slice none 0 0) 1 24 Try.underlying26 hi'' hz0'' hz1'' hz2'' rfl (by decide) D i3 dd _ rfl (ho3.ext e6) 1 [hdr (E, ni', de)] rfl rfl (by simp [Value.oneCell', hdr]) (by unfold maxLen; omega) (by omega) (Nat.le_trans hsz3 e6.size) ?_; intro D' dd' w7 ho' hg' hw'))
                go_roundw
                case rel => exact ⟨i3 + 1, D', dd', hs3 ++ [(E, ni', de)], rfl, by go_num, hlt3, by simpa using ho', by simp; exact Hl3.out, copies_step he3 ho3 Hl3.out Hc3.out Hpi.out e6 hE hg' hw', Ext.own (he3.trans e6) hg' ho3.blk_ge⟩
                case measure => simp [intOf]; omega
              · have hd7 : decide (i3 < Q.length) = false := decide_eq_false hlt3
                obtain rfl : i3 = Q.length := by omega
                have hKs : K < hs3.length := by have := Hl3.out; omega
                have hhK : hs3[K]? = some hs3[K] := List.getElem?_eq_getElem hKs
                obtain ⟨⟨q, hq, hown⟩, _, _⟩ := Hc3.out K _ hhK
                rw [HpK.out] at hq
                obtain rfl := Option.some.inj hq
                have hp0 : 0 < p.length := by have := Hnp.out; omega
                obtain ⟨g, o, hgo, hc9⟩ := Rb.at_ (l := p) hown.rd hp0
                obtain ⟨db, dof, rfl, u, hu, hcD⟩ := ho3.rd.at_ (k := K) (by have := Hl3.out; omega)
                rw [List.getElem?_map, hhK] at hu
                obtain rfl := Option.some.inj hu
                unfold hdr at hcD
                generalize hs3[K] = hk at *
                obtain ⟨hk0, hk1, hk2⟩ := hk
                simp only at hgo hown hcD
                subst hgo
                have hfr := own_free hown o
                have hlk : hk1 = p.length := Rb.len (l := p) hown.rd
                obtain ⟨nv, hnv, hne⟩ := xor_ne (a := p[0]) hz hzz
                have hset := copies_set (ho3) Hl3.out Hc3.out hhK HpK.out nv
                have hgL := (hown.base_le _ rfl).1
                rw [Nat.add_zero] at hc9
                have hix3 : (0 : Int) < (hk1 : Int) := by omega
                have hix4 : 0 < hk1 := by omega
                have Hset := Lib.hid hset
                have Hne := Lib.hid hne
                have Hr9 := Lib.hid (Hr0.out.ext he3)
                have xs := xq.trans he3
                have Hlk := Lib.hid hlk
                generalize hp0e : p[0] = pz at *
                have Hp0e := Lib.hid hp0e
                clear hset hne hown hlk hp0e hu hhK
                go_wp2_with fail
                have xS0 := he3.setCell (p := ⟨g, o, none⟩) hgL (.int .u8 (nv.toNat : Int))
                have xS := xq.trans xS0
                have sS : (wr.setCell ⟨g, o, none⟩ (.int .u8 (nv.toNat : Int))).heap.size = wr.heap.size := by simp
                have r1 := Hr0.out.ext xS0
                have r2 := Hset.out
                generalize hS : World.setCell wr _ _ = S at *
                generalize h1 : World.alloc S _ = V1
                generalize h2' : World.alloc V1 _ = V2
                have y1 : Ext S V1 := by subst h1; exact Ext.alloc _ _
                have y2 : Ext V1 V2 := by subst h2'; exact Ext.alloc _ _
                have s1 : V1.heap.size = wr.heap.size + 1 := by subst h1; simp [sS]
                have s2 : V2.heap.size = wr.heap.size + 1 + 1 := by subst h2'; simp [s1]
                have r1 := (r1.ext y1).ext y2
                have r2 := (r2.ext y1).ext y2
                have hne : Q[K]? ≠ (Q.set K (p.set 0 nv))[K]? := by
                  rw [HpK.out, List.getElem?_set_self hK]
                  intro e
                  have e2 := congrArg (fun l : List UInt8 => l[0]?) (Option.some.inj e)
                  simp only [List.getElem?_set_self hp0, List.getElem?_eq_getElem hp0] at e2
                  exact Hne.out ((Option.some.inj e2).symm.trans Hp0e.out)
                have hA := agree_any _ _ 2 2 _ (rt_two_new (w := V2) (T := 51) (h1 := ((some ⟨pb, po, none⟩, Q.length, cp0), (Q.length : Int), (none, 0, 0))) (h2 := ((some ⟨db, dof, none⟩, Q.length, dd), ((K : Int) + 1), (none, 0, 0))) (x := (Q, (Q.length : Int), [])) (y := (Q.set K (p.set 0 nv), (K : Int) + 1, [])) ⟨r1, rfl, Rb.nil_ _⟩ ⟨r2, rfl, Rb.nil_ _⟩)
                have hno : agreeT (Q, (Q.length : Int), []) (Q.set K (p.set 0 nv), (K : Int) + 1, []) = false := agree_turned (k := K) hK (by simp) hne [] []
                rw [agN_two, hno] at hA
                rw [← s2]
                refine Calls.mono hA ?_
                rintro e w9 ⟨rfl, e9⟩
                go_wp2_with fail
                go_ret
                exact ⟨rfl, ((xS.trans y1).trans y2).trans ((Ext.alloc V2 _).trans e9)⟩
      · have hd1 : decide (i < fn) = false := decide_eq_false hg1
        clear hg
        go_wp2_with fail
        refine Calls.mono (Hall.out _ (Ext.refl _)) ?_
        rintro e w5 ⟨rfl, e5⟩
        have d0 := e5.cell d0
        have d1 := e5.cell d1
        have x5 := x0.trans (he.trans e5)
        have Hr0 := Lib.hid ((Hr0.out.ext he).ext e5)
        have Hro := Lib.hid ((Hro.out.ext he).ext e5)
        have Hrt0 := Lib.hid (Hrt0.out.ext e5)
        clear Hall he e5 HF x0
        go_wp2_with fail
        go_loopw [15] (fun v wr2 => jtRel2 w5 i v wr2) (fun v _ => i - (intOf v).toNat)
        case atStart => exact ⟨0, rfl, by omega, Ext.refl _⟩
        case round =>
          obtain ⟨j, rfl, hj, e2⟩ := hrel
          have d0 := e2.cell d0
          have d1 := e2.cell d1
          by_cases hji : j < i
          · have hd6 : decide (j < i) = true := decide_eq_true hji
            have hjl : j < hs.length := by have := Hl.out; omega
            have hjx : (0 : Int) ≤ (j : Int) ∧ (j : Int) < (i : Int) := by omega
            obtain ⟨f, hf, ef⟩ := Hxr.out j hjl
            have hjm : j < (hs.map (jtTold t' l' Q)).length := by simpa using hjl
            have hget : (hs.map (jtTold t' l' Q))[j]'hjm = (Q, (f : Int), GN t' l' Q f) := by
              rw [List.getElem_map]
              unfold jtTold
              rw [ef]
              rfl
            obtain ⟨gb, go, QA, qn, qc, GB, gm, gd, rfl, k0, k1, k2, hp', hg'⟩ := Hrt0.out.at_ (k := j) hjm
            rw [hget] at k1 hp' hg'
            have k0 := e2.cell k0
            have k1 := e2.cell k1
            have k2 := e2.cell k2
            have hri := fun W (hR : Ext w5 W) => right_any W t' A n' c l' htl (Hro.out.ext hR) QA qn qc (f : Int) GB gm gd Q (GN t' l' Q f) (hp'.ext hR) (hg'.ext hR) (by omega)
            rw [jt_right hf] at hri
            unfold pAgg tAgg at hri
            have Hri := Lib.hid hri
            clear hri hget hp' hg' ef
            go_wp2_with fail
            apply wp_region_lex (R := Ext) (by kernel_rfl) (by kernel_rfl) Ext.refl (fun _ _ _ => Ext.trans) (Ext.drew _)
            repeat
              first
                | (apply lex_ex Ext.refl
                   · rfl
                   · intro W' hR hΦ
                     have y0 := hR.cell d0
                     have y1 := hR.cell d1
                     have y2 := hR.cell k0
                     have y3 := hR.cell k1
                     have y4 := hR.cell k2
                     go_simp
                     first | done | with_reducible rfl)
                | (apply lex_skip
                   · rfl)
              simp only [Act.put, List.setIfInBounds_toArray, List.set_cons_zero, List.set_cons_succ]
            apply lex_callx
            · rfl
            · intro W'
              go_simp
              exact ⟨rfl, rfl⟩
            · intro W' hR hΦ
              exact (Hri.out _ (e2.trans hR)).mono fun _ _ h => h
            simp only [Act.put, List.setIfInBounds_toArray, List.set_cons_zero, List.set_cons_succ]
            repeat
              first
                | (apply lex_ex Ext.refl
                   · rfl
                   · intro W' hR hΦ
                     have y0 := hR.cell d0
                     have y1 := hR.cell d1
                     have y2 := hR.cell k0
                     have y3 := hR.cell k1
                     have y4 := hR.cell k2
                     go_simp
                     first | done | with_reducible rfl)
                | (apply lex_skip
                   · rfl)
              simp only [Act.put, List.setIfInBounds_toArray, List.set_cons_zero, List.set_cons_succ]
            refine lex_nil ?_
            intro W5 hR5 hΦ
            clear hΦ
            go_wp2_with fail
            go_roundw
            case rel => exact ⟨j + 1, by go_num, hji, e2.trans hR5⟩
            case measure => simp [intOf]; omega
          · have hd6 : decide (j < i) = false := decide_eq_false hji
            have xq := x5.trans e2
            have Hr0 := Lib.hid (Hr0.out.ext e2)
            clear Hrt0 Hxr Hl x5 e2
            by_cases h2 : i < 2
            · have a1 : decide (i < 2) = true := decide_eq_true h2
              have a2 : decide ((i : Int) < 2) = true := decide_eq_true (by omega)
              go_wp2_with fail
              go_ret
              exact ⟨rfl, xq⟩
            have a1 : decide (i < 2) = false := decide_eq_false h2
            have a2 : decide ((i : Int) < 2) = false := decide_eq_false (by omega)
            by_cases hq0 : Q.length = 0
            · have a3 : (Q.length == 0) = true := by rw [beq_iff_eq]; exact hq0
              have a4 : ((Q.length : Int) == 0) = true := by rw [beq_iff_eq]; omega
              go_wp2_with fail
              go_ret
              exact ⟨rfl, xq⟩
            have a3 : (Q.length == 0) = false := by rw [beq_eq_false_iff_ne]; exact hq0
            have a4 : ((Q.length : Int) == 0) = false := by rw [beq_eq_false_iff_ne]; omega
            by_cases hat : at_ < 0
            · have a5 : decide (at_ < 0) = true := decide_eq_true hat
              go_wp2_with fail
              go_ret
              exact ⟨rfl, xq⟩
            have a5 : decide (at_ < 0) = false := decide_eq_false hat
            by_cases hzz : z = 0
            · have a6 : (z == 0) = true := by rw [beq_iff_eq]; exact hzz
              have a7 : ((z : Int) == 0) = true := by rw [beq_iff_eq]; omega
              go_wp2_with fail
              go_ret
              exact ⟨rfl, xq⟩
            have a6 : (z == 0) = false := by rw [beq_eq_false_iff_ne]; exact hzz
            have a7 : ((z : Int) == 0) = false := by rw [beq_eq_false_iff_ne]; omega
            obtain ⟨X, rfl⟩ := Int.eq_ofNat_of_zero_le (show 0 ≤ at_ by omega)
            obtain ⟨K, hK, hmod⟩ : ∃ K : Nat, K < Q.length ∧ ((X : Int)).tmod (Q.length : Int) = (K : Nat) := ⟨X % Q.length, Nat.mod_lt _ (by omega), by rw [Int.tmod_eq_emod_of_nonneg (by omega)]; simp⟩
            have hnz : ((Q.length : Int) = 0) = False := eq_false (by omega)
            have hKx : (0 : Int) ≤ (K : Int) ∧ (K : Int) < (Q.length : Int) := by omega
            obtain ⟨pb, po, Ai, ni, ci, rfl, hcK, hrK⟩ := Hr0.out.at_ hK
            have hpK : Q[K]? = some Q[K] := List.getElem?_eq_getElem hK
            generalize Q[K] = p at *
            have hnp := hrK.len
            have HpK := Lib.hid hpK
            have Hnp := Lib.hid hnp
            clear hrK hpK hnp
            by_cases hn0 : ni = 0
            · have a8 : (ni == 0) = true := by rw [beq_iff_eq]; exact hn0
              have a9 : ((ni : Int) == 0) = true := by rw [beq_iff_eq]; omega
              go_wp2_with fail
              go_ret
              exact ⟨rfl, xq⟩
            have a8 : (ni == 0) = false := by rw [beq_eq_false_iff_ne]; exact hn0
            have a9 : ((ni : Int) == 0) = false := by rw [beq_eq_false_iff_ne]; omega
            obtain ⟨i1, hi', hz0', hz1', hz2'⟩ := info_parts info_u8
            obtain ⟨i2, hi'', hz0'', hz1'', hz2''⟩ := info_parts info_bytes
            go_wp2_with fail
            obtain ⟨wL, rfl⟩ : ∃ x : World, x = wr := ⟨_, rfl⟩
            go_loopw [17, 18] (fun v iv wr3 => jtRel3 wL Q v iv wr3) (fun _ iv _ => Q.length - (intOf iv).toNat)
            case atStart => exact ⟨0, none, 0, [], rfl, rfl, by omega, Own.nil_ _ _ _ _, rfl, fun j h hj => by simp at hj, Ext.refl _⟩
            case round =>
              obtain ⟨i3, D, dd, hs3, rfl, rfl, hi3, ho3, hl3, hc3, he3⟩ := hrel
              have Hl3 := Lib.hid hl3
              have Hc3 := Lib.hid hc3
              clear hl3 hc3
              by_cases hlt3 : i3 < Q.length
              · have hd7 : decide (i3 < Q.length) = true := decide_eq_true hlt3
                have hx3 : (0 : Int) ≤ (i3 : Int) ∧ (i3 : Int) < (Q.length : Int) := by omega
                obtain ⟨pb', po', Ai', ni', ci', hB', hc', hr'⟩ := Hr0.out.at_ hlt3
                cases hB'
                have h9 := HQ9.out _ (List.getElem_mem hlt3)
                have hpi : Q[i3]? = some Q[i3] := List.getElem?_eq_getElem hlt3
                generalize Q[i3] = p' at *
                have hc' := he3.cell hc'
                have hr' := hr'.ext he3
                have hn' := hr'.len
                have Hn' := Lib.hid hn'
                have Hpi := Lib.hid hpi
                have Hr' := Lib.hid hr'
                have hn9 : ni' ≤ 9 := by omega
                have hsz3 := he3.size
                clear hn' hpi hr'
                go_wp2_with (at_builtin; first
                  | (refine wpList_append_nil _ rfl _ _ 43 rfl _ 5 i1 (.int .u8 0) 1 1 Try.underlying43 hi' hz0' hz1' hz2' rfl (by decide) rfl Ai' ni' ci' _ rfl Hr'.out (bcs_one _) (by unfold maxLen; omega) (by omega) (Nat.le_refl _) ?_; intro E de w6 hE e6)
                  | (refine wpList_append_new _ rfl _ _ 26 rfl wL.heap.size 43 i2 (.slice none 0 0) 1 24 Try.underlying26 hi'' hz0'' hz1'' hz2'' rfl (by decide) D i3 dd _ rfl (ho3.ext e6) 1 [hdr (E, ni', de)] rfl rfl (by simp [Value.oneCell', hdr]) (by unfold maxLen; omega) (by omega) (Nat.le_trans hsz3 e6.size) ?_; intro D' dd' w7 ho' hg' hw'))
                go_roundw
                case rel => exact ⟨i3 + 1, D', dd', hs3 ++ [(E, ni', de)], rfl, by go_num, hlt3, by simpa using ho', by simp; exact Hl3.out, copies_step he3 ho3 Hl3.out Hc3.out Hpi.out e6 hE hg' hw', Ext.own (he3.trans e6) hg' ho3.blk_ge⟩
                case measure => simp [intOf]; omega
              · have hd7 : decide (i3 < Q.length) = false := decide_eq_false hlt3
                obtain rfl : i3 = Q.length := by omega
                have hKs : K < hs3.length := by have := Hl3.out; omega
                have hhK : hs3[K]? = some hs3[K] := List.getElem?_eq_getElem hKs
                obtain ⟨⟨q, hq, hown⟩, _, _⟩ := Hc3.out K _ hhK
                rw [HpK.out] at hq
                obtain rfl := Option.some.inj hq
                have hp0 : 0 < p.length := by have := Hnp.out; omega
                obtain ⟨g, o, hgo, hc9⟩ := Rb.at_ (l := p) hown.rd hp0
                obtain ⟨db, dof, rfl, u, hu, hcD⟩ := ho3.rd.at_ (k := K) (by have := Hl3.out; omega)
                rw [List.getElem?_map, hhK] at hu
                obtain rfl := Option.some.inj hu
                unfold hdr at hcD
                generalize hs3[K] = hk at *
                obtain ⟨hk0, hk1, hk2⟩ := hk
                simp only at hgo hown hcD
                subst hgo
                have hfr := own_free hown o
                have hlk : hk1 = p.length := Rb.len (l := p) hown.rd
                obtain ⟨nv, hnv, hne⟩ := xor_ne (a := p[0]) hz hzz
                have hset := copies_set (ho3) Hl3.out Hc3.out hhK HpK.out nv
                have hgL := (hown.base_le _ rfl).1
                rw [Nat.add_zero] at hc9
                have hix3 : (0 : Int) < (hk1 : Int) := by omega
                have hix4 : 0 < hk1 := by omega
                have Hset := Lib.hid hset
                have Hne := Lib.hid hne
                have Hr9 := Lib.hid (Hr0.out.ext he3)
                have xs := xq.trans he3
                have Hlk := Lib.hid hlk
                generalize hp0e : p[0] = pz at *
                have Hp0e := Lib.hid hp0e
                clear hset hne hown hlk hp0e hu hhK
                go_wp2_with fail
                have xS0 := he3.setCell (p := ⟨g, o, none⟩) hgL (.int .u8 (nv.toNat : Int))
                have xS := xq.trans xS0
                have sS : (wr.setCell ⟨g, o, none⟩ (.int .u8 (nv.toNat : Int))).heap.size = wr.heap.size := by simp
                have r1 := Hr0.out.ext xS0
                have r2 := Hset.out
                generalize hS : World.setCell wr _ _ = S at *
                generalize h1 : World.alloc S _ = V1
                generalize h2' : World.alloc V1 _ = V2
                have y1 : Ext S V1 := by subst h1; exact Ext.alloc _ _
                have y2 : Ext V1 V2 := by subst h2'; exact Ext.alloc _ _
                have s1 : V1.heap.size = wr.heap.size + 1 := by subst h1; simp [sS]
                have s2 : V2.heap.size = wr.heap.size + 1 + 1 := by subst h2'; simp [s1]
                have r1 := (r1.ext y1).ext y2
                have r2 := (r2.ext y1).ext y2
                have hne : Q[K]? ≠ (Q.set K (p.set 0 nv))[K]? := by
                  rw [HpK.out, List.getElem?_set_self hK]
                  intro e
                  have e2 := congrArg (fun l : List UInt8 => l[0]?) (Option.some.inj e)
                  simp only [List.getElem?_set_self hp0, List.getElem?_eq_getElem hp0] at e2
                  exact Hne.out ((Option.some.inj e2).symm.trans Hp0e.out)
                have hA := agree_any _ _ 2 2 _ (rt_two_new (w := V2) (T := 51) (h1 := ((some ⟨pb, po, none⟩, Q.length, cp0), (Q.length : Int), (none, 0, 0))) (h2 := ((some ⟨db, dof, none⟩, Q.length, dd), ((K : Int) + 1), (none, 0, 0))) (x := (Q, (Q.length : Int), [])) (y := (Q.set K (p.set 0 nv), (K : Int) + 1, [])) ⟨r1, rfl, Rb.nil_ _⟩ ⟨r2, rfl, Rb.nil_ _⟩)
                have hno : agreeT (Q, (Q.length : Int), []) (Q.set K (p.set 0 nv), (K : Int) + 1, []) = false := agree_turned (k := K) hK (by simp) hne [] []
                rw [agN_two, hno] at hA
                rw [← s2]
                refine Calls.mono hA ?_
                rintro e w9 ⟨rfl, e9⟩
                go_wp2_with fail
                go_ret
                exact ⟨rfl, ((xS.trans y1).trans y2).trans ((Ext.alloc V2 _).trans e9)⟩
end Go.Proofs.Ytihegdjdgklbgaa
