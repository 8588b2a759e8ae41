/- Plain: who agrees with whom, pair by pair; games' bytes cell by cell. The walk of law28.cut. -/
import Derived.Test.YtihegdjdgklbgaaJuG
namespace Go.Proofs.Ytihegdjdgklbgaa
set_option maxRecDepth 100000
open Go.RowKit
set_option linter.unusedVariables false

theorem agreeT_symm (a b : ToldT) : agreeT a b = agreeT b a := by
  unfold agreeT
  rw [Int.min_comm b.2.1 a.2.1, Bool.and_comm (mayT b), BEq.comm (a := b.1.take _), bne_comm (a := b.2.1), BEq.comm (a := b.2.2)]
theorem agreeT_self (a : ToldT) : agreeT a a = mayT a := by simp [agreeT]
theorem agreeT_may {a b : ToldT} (h : agreeT a b = true) : mayT a = true ∧ mayT b = true := by
  unfold agreeT at h
  simp only [Bool.and_eq_true] at h
  exact h.1.1
/-- Each agrees with each ahead of it. -/
def PairsAg (ts : List ToldT) (i : Nat) : Prop := ∀ (a b : Nat) (x y : ToldT), a < i → b < a → ts[a]? = some x → ts[b]? = some y → agreeT x y = true
theorem all_pairs {ts : List ToldT} (h2 : 2 ≤ ts.length) : AllAg ts ts.length ↔ PairsAg ts ts.length := by
  constructor
  · intro h a b x y ha hb hx hy
    exact h a b x y ha (by omega) hx hy
  · intro h a b x y ha hb hx hy
    by_cases hab : b < a
    · exact h a b x y ha hab hx hy
    · obtain rfl : b = a := by omega
      rw [hx] at hy
      obtain rfl := Option.some.inj hy
      rw [agreeT_self]
      by_cases h0 : b = 0
      · subst h0
        exact (agreeT_may (h 1 0 _ _ (by omega) (by omega) (List.getElem?_eq_getElem (by omega)) hx)).2
      · exact (agreeT_may (h b 0 _ _ ha (by omega) hx (List.getElem?_eq_getElem (by omega)))).1
theorem agN_iff (ts : List ToldT) : agN ts = true ↔ AllAg ts ts.length := by
  unfold agN
  exact @decide_eq_true_iff _ (Classical.propDecidable _)
theorem agN_of {ts : List ToldT} (h2 : 2 ≤ ts.length) {v : Bool} (h : v = true ↔ PairsAg ts ts.length) : agN ts = v := by
  rw [Bool.eq_iff_iff, agN_iff, all_pairs h2, h]
theorem agN_two (x y : ToldT) : agN [x, y] = agreeT x y := by
  refine agN_of (by simp) ⟨fun h a b u v ha hb hu hv => ?_, fun h => ?_⟩
  · have : a = 1 ∧ b = 0 := by simp at ha; omega
    obtain ⟨rfl, rfl⟩ := this
    simp at hu hv
    subst hu; subst hv
    rw [agreeT_symm]; exact h
  · rw [agreeT_symm]
    exact h 1 0 y x (by simp) (by omega) rfl rfl

/-- Pairs, one row more. -/
def RowAg (ts : List ToldT) (x : ToldT) (k : Nat) : Prop := ∀ (b : Nat) (y : ToldT), b < k → ts[b]? = some y → agreeT x y = true
theorem RowAg.zero (ts : List ToldT) (x : ToldT) : RowAg ts x 0 := fun b y hb => by omega
theorem RowAg.succ {ts : List ToldT} {x y : ToldT} {k : Nat} (hy : ts[k]? = some y) : RowAg ts x (k + 1) ↔ RowAg ts x k ∧ agreeT x y = true := by
  constructor
  · intro h
    exact ⟨fun b z hb hz => h b z (by omega) hz, h k y (by omega) hy⟩
  · rintro ⟨h1, h2⟩ b z hb hz
    by_cases hbk : b < k
    · exact h1 b z hbk hz
    · obtain rfl : b = k := by omega
      rw [hy] at hz
      obtain rfl := Option.some.inj hz
      exact h2
theorem PairsAg.zero (ts : List ToldT) : PairsAg ts 0 := fun a b x y ha => by omega
theorem PairsAg.succ {ts : List ToldT} {x : ToldT} {i : Nat} (hx : ts[i]? = some x) : PairsAg ts (i + 1) ↔ PairsAg ts i ∧ RowAg ts x i := by
  constructor
  · intro h
    exact ⟨fun a b u v ha hb hu hv => h a b u v (by omega) hb hu hv, fun b y hb hy => h i b x y (by omega) hb hx hy⟩
  · rintro ⟨h1, h2⟩ a b u v ha hb hu hv
    by_cases hai : a < i
    · exact h1 a b u v hai hb hu hv
    · obtain rfl : a = i := by omega
      rw [hx] at hu
      obtain rfl := Option.some.inj hu
      exact h2 b v hb hv

/-! ### Games' bytes -/
theorem fourL_inj {m n : Nat} (hm : m < 4294967296) (hn : n < 4294967296) (h : fourL m = fourL n) : m = n := by
  have h1 := congrArg bcs h
  rw [four_cells m hm, four_cells n hn] at h1
  simp at h1
  omega
theorem uns_inj {x y : Int} (hx : ok32 x) (hy : ok32 y) (h : uns x = uns y) : x = y := by
  unfold uns at h
  unfold ok32 at hx hy
  omega
theorem gameL_inj : ∀ {g h : List Int}, (∀ x ∈ g, ok32 x) → (∀ x ∈ h, ok32 x) → gameL g = gameL h → g = h
  | [], [], _, _, _ => rfl
  | [], y :: h, _, _, e => by have := congrArg List.length e; rw [gameL_len, gameL_len] at this; simp at this
  | x :: g, [], _, _, e => by have := congrArg List.length e; rw [gameL_len, gameL_len] at this; simp at this
  | x :: g, y :: h, hg, hh, e => by
    unfold gameL at e
    rw [List.flatMap_cons, List.flatMap_cons] at e
    obtain ⟨e1, e2⟩ := List.append_inj e (by simp [fourL])
    have hx := hg x (List.mem_cons_self ..)
    have hy := hh y (List.mem_cons_self ..)
    have := uns_inj hx hy (fourL_inj (uns_lt _) (uns_lt _) e1)
    subst this
    rw [gameL_inj (fun z hz => hg z (List.mem_cons_of_mem _ hz)) (fun z hz => hh z (List.mem_cons_of_mem _ hz)) e2]
theorem gameL_set {g : List Int} (hok : okG g) {c : Nat} (hc : c < 32) {v : Int} (hv : ok32 v) : (gameL (g.set c v) == gameL g) = (g.getD c 0 == v) := by
  have hgl : c < g.length := by have := hok.1; omega
  have hgd : g.getD c 0 = g[c] := by simp [List.getD, hgl]
  rw [Bool.eq_iff_iff, beq_iff_eq, beq_iff_eq, hgd]
  constructor
  · intro h
    have h2 := gameL_inj (fun x hx => by
      rcases List.mem_or_eq_of_mem_set hx with h3 | h3
      · exact hok.2 x h3
      · rw [h3]; exact hv) hok.2 h
    have h3 := congrArg (fun l => l[c]?) h2
    simp [hgl] at h3
    exact h3.symm
  · intro h
    subst h
    rw [List.set_getElem_self]

/-! ### Players of one list of presses -/
theorem agree_same {Q : List (List UInt8)} {G : List (List UInt8) → List UInt8} {a b : Nat} (ha : a ≤ Q.length) (hb : b ≤ Q.length) : agreeT (Q, (a : Int), G (Q.take a)) (Q, (b : Int), G (Q.take b)) = true := by
  unfold agreeT mayT
  simp only [beq_self_eq_true, Bool.and_true, Bool.and_eq_true, decide_eq_true_eq, Bool.or_eq_true, bne_iff_ne, beq_iff_eq]
  refine ⟨by omega, ?_⟩
  by_cases h : a = b
  · subst h; right; rfl
  · left; omega
theorem agree_turned {Q Q' : List (List UInt8)} {k : Nat} (hk : k < Q.length) (hl : Q'.length = Q.length) (hne : Q[k]? ≠ Q'[k]?) (g g' : List UInt8) : agreeT (Q, (Q.length : Int), g) (Q', ((k + 1 : Nat) : Int), g') = false := by
  unfold agreeT
  have e : (min (Q.length : Int) ((k + 1 : Nat) : Int)).toNat = k + 1 := by omega
  simp only [e]
  have h : (Q.take (k + 1) == Q'.take (k + 1)) = false := beq_eq_false_iff_ne.2 fun h => hne (by
    have h1 := congrArg (fun l => l[k]?) h
    simpa [List.getElem?_take] using h1)
  rw [h]
  simp

theorem info_told : (Try.prog.info? 51).map (fun i => (i.zero, i.size, i.bytes)) = some (some (.agg #[.slice none 0 0, .int .i64 0, .slice none 0 0]), 3, 56) := by kernel_rfl
def cut1 (t : ToldT) : ToldT := ((t.1.take 8).map (·.take 9), t.2.1, t.2.2.take 130)
def cutT (ts : List ToldT) : List ToldT := (ts.take 5).map cut1
theorem tcs_single (h : HdT) : tcs [h] = tcells h := by simp [tcs]
theorem tcells_one (h : HdT) : ∀ u ∈ tcells h, u.oneCell' = true := by
  intro u hu
  simp [tcells] at hu
  rcases hu with rfl | rfl | rfl <;> rfl
section
variable {w0 w w1 w' w'' : World} {B : Option Addr} {m d : Nat} {Q : List (List UInt8)}
theorem Rq.mono (h : Rq w0 w1 w' B m d Q) (hs : w.heap.size ≤ w1.heap.size) : Rq w0 w w' B m d Q := by
  obtain ⟨l, h1, h2, h3, h4, h5⟩ := h
  exact ⟨l, h1, h2, h3, fun a b c => Nat.le_trans hs (h4 a b c), h5⟩
theorem Rq.grown (h : Rq w0 w w' B m d Q) {row : Option Nat} (hg : w'.grownBy w'' row) (hne : 0 < m → ∀ a, B = some a → row ≠ some a.block) (h0 : Ext w0 w'') : Rq w0 w w'' B m d Q := by
  obtain ⟨l, h1, h2, h3, h4, h5⟩ := h
  exact ⟨l, Rd.grownP h1 hg hne, h2, h3, h4, h0⟩
theorem Rq.lt (h : Rq w0 w w' B m d Q) (h0 : 0 < m) : ∀ a, B = some a → w.heap.size ≤ a.block ∧ a.block < w'.heap.size := by
  obtain ⟨l, h1, h2, h3, h4, h5⟩ := h
  exact fun a ha => ⟨h4 h0 a ha, h1.lt (by omega) a ha⟩
end
/-- What players told of which all lies ahead of a block, or in new memory. -/
def RtQ (w0 w w' : World) (B : Option Addr) (m d : Nat) (Q : List ToldT) : Prop :=
  ∃ hs : List HdT, Rd w' 3 B m d (tcs hs) ∧ hs.length = Q.length ∧ (∀ (i : Nat) h t, hs[i]? = some h → Q[i]? = some t → Rq w0 w w' h.1.1 h.1.2.1 h.1.2.2 t.1 ∧ h.2.1 = t.2.1 ∧ Rb w0 h.2.2.1 h.2.2.2.1 h.2.2.2.2 t.2.2) ∧ (0 < m → ∀ a, B = some a → w.heap.size ≤ a.block) ∧ Ext w0 w'
section
variable {w0 w w' w'' : World} {B : Option Addr} {m d : Nat} {Q : List ToldT}
theorem RtQ.rt (h : RtQ w0 w w' B m d Q) : Rt w' B m d Q := by
  obtain ⟨l, h1, h2, h3, h4, h5⟩ := h
  exact ⟨l, h1, h2, fun i a t ha ht => ⟨(h3 i a t ha ht).1.rp, (h3 i a t ha ht).2.1, (h3 i a t ha ht).2.2.ext h5⟩⟩
theorem RtQ.keep {b : Nat} (h : RtQ w0 w w' B m d Q) (hg : w'.grownBy w'' (some b)) (h0 : w0.heap.size ≤ b) (h1 : b < w.heap.size) : RtQ w0 w w'' B m d Q := by
  obtain ⟨l, k1, k2, k3, k4, k5⟩ := h
  exact ⟨l, Rd.grownP k1 hg (fun hm a ha e => by have := k4 hm a ha; have := Option.some.inj e; omega), k2, fun i a t ha ht => ⟨(k3 i a t ha ht).1.keep hg h0 h1, (k3 i a t ha ht).2⟩, k4, ext_of_grown_new k5 hg h0⟩
end
def CutOf (w0 w : World) (ts : List ToldT) (e : Ending) (w' : World) : Prop := ∃ B m d, e = .returned (.slice B m d) ∧ RtQ w0 w w' B m d (cutT ts) ∧ Ext w w'
def ctOne (w0 w wr : World) (B : Option Addr) (h : HdT) (t : ToldT) : Prop :=
  Rq w0 w wr h.1.1 h.1.2.1 h.1.2.2 (cut1 t).1 ∧ h.2.1 = t.2.1 ∧ Rb w0 h.2.2.1 h.2.2.2.1 h.2.2.2.2 (cut1 t).2.2 ∧ (0 < h.1.2.1 → ∀ a, h.1.1 = some a → blk B ≠ some a.block)
def ctAll (w0 w wr : World) (B : Option Addr) (hs : List HdT) (ts : List ToldT) : Prop := ∀ (j : Nat) h, hs[j]? = some h → ∃ t, ts[j]? = some t ∧ ctOne w0 w wr B h t
def ctRel (w0 w : World) (ts : List ToldT) (v iv : Value) (wr : World) : Prop :=
  ∃ (i : Nat) (B : Option Addr) (d : Nat) (hs : List HdT), v = .slice B i d ∧ iv = .int .i64 (i : Nat) ∧ i ≤ ts.length ∧ i ≤ 5 ∧ Own wr w.heap.size 51 3 B i d (tcs hs) ∧ hs.length = i ∧ ctAll w0 w wr B hs ts ∧ Ext w wr
theorem cut_end {w0 w wr : World} {ts : List ToldT} {i : Nat} {B : Option Addr} {d : Nat} {hs : List HdT} (e0 : Ext w0 w) (hi : i = min ts.length 5) (ho : Own wr w.heap.size 51 3 B i d (tcs hs)) (hl : hs.length = i)
    (hh : ctAll w0 w wr B hs ts) (e : Ext w wr) : CutOf w0 w ts (.returned (.slice B i d)) wr := by
  refine ⟨B, i, d, rfl, ⟨hs, ho.rd, by simp [cutT]; omega, fun j h t hj ht => ?_, fun _ a ha => (ho.base_le a ha).1, e0.trans e⟩, e⟩
  obtain ⟨q, hq, h1, h2, h3, _⟩ := hh j h hj
  have hj5 : j < 5 := by have := (List.getElem?_eq_some_iff.1 hj).1; omega
  unfold cutT at ht
  rw [List.getElem?_map, List.getElem?_take, if_pos hj5, hq] at ht
  obtain rfl : cut1 q = t := by simpa using ht
  exact ⟨h1, h2, h3⟩
theorem ct_step {w0 w wr V W2 W3 : World} {B B' B2 GB : Option Addr} {i m2 d2 d gn gd : Nat} {hs : List HdT} {ts : List ToldT} {x : ToldT} (e0 : Ext w0 w) (e : Ext w wr) (ho : Own wr w.heap.size 51 3 B i d (tcs hs)) (hl : hs.length = i) (hh : ctAll w0 w wr B hs ts)
    (hx : ts[i]? = some x) (eV : wr.heap.size ≤ V.heap.size) (e2 : Ext wr W2) (q2 : Rq w0 V W2 B2 m2 d2 (cut1 x).1) (hg : Rb w0 GB gn gd (cut1 x).2.2) (hgr : W2.grownBy W3 (blk B)) (hw : Went W2 B B') :
    ctAll w0 w W3 B' (hs ++ [((B2, m2, d2), x.2.1, (GB, gn, gd))]) ts := by
  have x3 : Ext w W3 := Ext.own (e.trans e2) hgr ho.blk_ge
  have hlt : ∀ k, blk B = some k → k < wr.heap.size := fun k hk => by
    obtain ⟨a, ha, rfl⟩ := Option.map_eq_some_iff.1 hk
    exact (ho.base_le a ha).2
  intro j h hj
  by_cases hjl : j < hs.length
  · rw [List.getElem?_append_left hjl] at hj
    obtain ⟨t, ht, h1, h2, h3, h4⟩ := hh j h hj
    refine ⟨t, ht, (h1.ext e2).grown hgr h4 (e0.trans x3), h2, h3, fun h0 a ha hb => ?_⟩
    rcases hw with hw | hw
    · exact h4 h0 a ha (hw ▸ hb)
    · have k1 := hw _ hb
      have k2 := (h1.lt h0 a ha).2
      have := e2.size
      omega
  · rw [List.getElem?_append_right (by omega)] at hj
    have hj0 : j - hs.length = 0 := by
      have := (List.getElem?_eq_some_iff.1 hj).1
      simp at this; omega
    rw [hj0] at hj
    obtain rfl : ((B2, m2, d2), x.2.1, (GB, gn, gd)) = h := by simpa using hj
    have hji : j = i := by omega
    subst hji
    have hne : 0 < m2 → ∀ a, B2 = some a → blk B ≠ some a.block := fun h0 a ha hb => by
      have := hlt _ hb
      have := (q2.lt h0 a ha).1
      omega
    refine ⟨x, hx, (q2.grown hgr hne (e0.trans x3)).mono (Nat.le_trans e.size eV), rfl, hg, fun h0 a ha hb => ?_⟩
    rcases hw with hw | hw
    · exact hne h0 a ha (hw ▸ hb)
    · have k1 := hw _ hb
      have k2 := (q2.lt h0 a ha).2
      omega
set_option maxHeartbeats 2000000 in
theorem cut28_any (w0 w : World) (e0 : Ext w0 w) (A : Option Addr) (n c : Nat) (ts : List ToldT) (h : Rt w0 A n c ts) :
    Calls Try.prog 21 #[.slice A n c] w (CutOf w0 w ts) := by
  have hmx := h.max
  have hn := h.len
  unfold maxLen at hmx
  have Hn := Lib.hid hn
  clear hn
  obtain ⟨i0, hi, hz0, hz1, hz2⟩ := info_parts info_told
  go_enter Try.func21, Try.ntmps21
  go_wp2_with fail
  go_loopw [3, 4] (fun v iv wr => ctRel w0 w ts v iv wr) (fun _ iv _ => 5 - (intOf iv).toNat)
  case atStart => exact ⟨0, none, 0, [], rfl, rfl, by omega, by omega, Own.nil_ _ _ _ _, rfl, fun j h hj => by simp at hj, Ext.refl _⟩
  case round =>
    obtain ⟨i, B, d, hs, rfl, rfl, hi1, hi2, ho, hl, hh, he⟩ := hrel
    have Hl := Lib.hid hl
    have Hh := Lib.hid hh
    clear hl hh
    by_cases h1 : i < n
    · have hd1 : decide (i < n) = true := decide_eq_true h1
      by_cases h2 : i < 5
      · have hd2 : decide (i < 5) = true := decide_eq_true h2
        have hd3 : decide ((i : Int) < 5) = true := decide_eq_true (by omega)
        have hil : i < ts.length := by have := Hn.out; omega
        obtain ⟨lb, lo, PA, pn, pc, GB, gm, gd, rfl, k0, k1, k2, hp, hg⟩ := h.at_ hil
        have k0 := he.cell (e0.cell k0)
        have k1 := he.cell (e0.cell k1)
        have k2 := he.cell (e0.cell k2)
        have hx : ts[i]? = some ts[i] := List.getElem?_eq_getElem hil
        have Hx := Lib.hid hx
        have hgx := hg.max
        unfold maxLen at hgx
        have Hp := Lib.hid hp
        have Hg := Lib.hid hg
        have Hgm := Lib.hid hg.len
        clear hx hp hg
        generalize ts[i] = x at *
        have hix : (0 : Int) ≤ (i : Int) ∧ (i : Int) < (n : Int) := by omega
        go_wp2_with fail
        generalize hV : World.alloc wr _ = V
        have eV : Ext wr V := by subst hV; exact Ext.alloc _ _
        have c0 : V.cell? ⟨wr.heap.size, 0, none⟩ = some (.slice PA pn pc) := by subst hV; go_simp
        have c1 : V.cell? ⟨wr.heap.size, 1, none⟩ = some (.int .i64 x.2.1) := by subst hV; go_simp
        have c2 : V.cell? ⟨wr.heap.size, 2, none⟩ = some (.slice GB gm gd) := by subst hV; go_simp
        have f0 : V.frozen? ⟨wr.heap.size, 0, none⟩ = false := by subst hV; go_simp
        have f2 : V.frozen? ⟨wr.heap.size, 2, none⟩ = false := by subst hV; go_simp
        have sV : wr.heap.size < V.heap.size := World.block_lt_of_cell? V _ c0
        clear hV k0 k1 k2
        refine (presses_any w0 V ((e0.trans he).trans eV) PA pn pc x.1 8 Hp.out (by decide)).mono ?_
        rintro e w2 ⟨B2, m2, d2, rfl, q2, e2⟩
        have c0 := e2.cell c0
        have c1 := e2.cell c1
        have c2 := e2.cell c2
        have f0 : w2.frozen? ⟨wr.heap.size, 0, none⟩ = false := by rw [e2.frozen sV]; exact f0
        have f2 : w2.frozen? ⟨wr.heap.size, 2, none⟩ = false := by rw [e2.frozen sV]; exact f2
        have x2 := eV.trans e2
        have Hq2 := Lib.hid q2
        clear q2
        have hsz := he.size
        have hw0 := (e0.trans he).size
        by_cases h130 : 130 < gm
        · have hd4 : decide ((130 : Int) < (gm : Int)) = true := decide_eq_true (by omega)
          have hd5 : decide (130 < gm) = true := decide_eq_true h130
          have hgd2 : 130 ≤ gd := by omega
          have eW2 : Ext wr ((w2.setCell ⟨wr.heap.size, 0, none⟩ (.slice B2 m2 d2)).setCell ⟨wr.heap.size, 2, none⟩ (.slice GB 130 gd)) := (x2.setCell (Nat.le_refl _) _).setCell (Nat.le_refl _) _
          have sW2 := Lib.hid (show ((w2.setCell ⟨wr.heap.size, 0, none⟩ (.slice B2 m2 d2)).setCell ⟨wr.heap.size, 2, none⟩ (.slice GB 130 gd)).heap.size = w2.heap.size by simp)
          have qW2 := Lib.hid (show Rq w0 V ((w2.setCell ⟨wr.heap.size, 0, none⟩ (.slice B2 m2 d2)).setCell ⟨wr.heap.size, 2, none⟩ (.slice GB 130 gd)) B2 m2 d2 (cut1 x).1 from (Hq2.out.keep (grown_setG _ _ _ _) hw0 sV).keep (grown_setG _ _ _ _) hw0 sV)
          have hgW := Lib.hid (show Rb w0 GB 130 gd (cut1 x).2.2 from Hg.out.take (by omega))
          go_wp2_with (at_builtin; refine wpList_append_new _ rfl _ _ 48 rfl w.heap.size 51 i0 (.agg #[.slice none 0 0, .int .i64 0, .slice none 0 0]) 3 56 Try.underlying48 hi hz0 hz1 hz2 rfl (by decide) B i d _ rfl (ho.ext eW2) 1 (tcells ((B2, m2, d2), x.2.1, (GB, 130, gd))) (by rw [sW2.out]; rfl) rfl (tcells_one _) (by unfold maxLen; omega) (by omega) (he.trans eW2).size ?_; intro B' d' w' ho' hg' hw')
          go_roundw
          case rel =>
            refine ⟨i + 1, B', d', hs ++ [((B2, m2, d2), x.2.1, (GB, 130, gd))], rfl, by go_num, hil, h2, ?_, by simp; exact Hl.out, ct_step e0 he ho Hl.out Hh.out Hx.out (Nat.le_of_lt sV) eW2 qW2.out hgW.out hg' hw', Ext.own (he.trans eW2) hg' ho.blk_ge⟩
            rw [tcs_app, tcs_single]; exact ho'
          case measure => simp [intOf]; omega
        · have hd4 : decide ((130 : Int) < (gm : Int)) = false := decide_eq_false (by omega)
          have hd5 : decide (130 < gm) = false := decide_eq_false h130
          have eW2 : Ext wr (w2.setCell ⟨wr.heap.size, 0, none⟩ (.slice B2 m2 d2)) := x2.setCell (Nat.le_refl _) _
          have sW2 := Lib.hid (show (w2.setCell ⟨wr.heap.size, 0, none⟩ (.slice B2 m2 d2)).heap.size = w2.heap.size by simp)
          have qW2 := Lib.hid (show Rq w0 V (w2.setCell ⟨wr.heap.size, 0, none⟩ (.slice B2 m2 d2)) B2 m2 d2 (cut1 x).1 from Hq2.out.keep (grown_setG _ _ _ _) hw0 sV)
          have hgW := Lib.hid (show Rb w0 GB gm gd (cut1 x).2.2 from by
            have := Hgm.out
            show Rb w0 GB gm gd (x.2.2.take 130)
            rw [List.take_of_length_le (by omega)]
            exact Hg.out)
          go_wp2_with (at_builtin; refine wpList_append_new _ rfl _ _ 48 rfl w.heap.size 51 i0 (.agg #[.slice none 0 0, .int .i64 0, .slice none 0 0]) 3 56 Try.underlying48 hi hz0 hz1 hz2 rfl (by decide) B i d _ rfl (ho.ext eW2) 1 (tcells ((B2, m2, d2), x.2.1, (GB, gm, gd))) (by rw [sW2.out]; rfl) rfl (tcells_one _) (by unfold maxLen; omega) (by omega) (he.trans eW2).size ?_; intro B' d' w' ho' hg' hw')
          go_roundw
          case rel =>
            refine ⟨i + 1, B', d', hs ++ [((B2, m2, d2), x.2.1, (GB, gm, gd))], rfl, by go_num, hil, h2, ?_, by simp; exact Hl.out, ct_step e0 he ho Hl.out Hh.out Hx.out (Nat.le_of_lt sV) eW2 qW2.out hgW.out hg' hw', Ext.own (he.trans eW2) hg' ho.blk_ge⟩
            rw [tcs_app, tcs_single]; exact ho'
          case measure => simp [intOf]; omega
      · have hd2 : decide (i < 5) = false := decide_eq_false h2
        have hd3 : decide ((i : Int) < 5) = false := decide_eq_false (by omega)
        have hend := cut_end (ts := ts) e0 (by have := Hn.out; omega) ho Hl.out Hh.out he
        have Hend := Lib.hid hend
        clear hend
        go_wp2_with fail
        go_ret
        exact Hend.out
    · have hd1 : decide (i < n) = false := decide_eq_false h1
      have hend := cut_end (ts := ts) e0 (by have := Hn.out; omega) ho Hl.out Hh.out he
      have Hend := Lib.hid hend
      clear hend
      go_wp2_with fail
      go_ret
      exact Hend.out
end Go.Proofs.Ytihegdjdgklbgaa
