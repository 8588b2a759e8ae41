/- The law of regions that draw their order (Reg), where operations differ in what they may write: 'Rs i' is what the i-th one does to memory; a fact told of one operation's value must outlive what the others do; 'J i' holds until the i-th one runs. No program in sight. -/
import Derived.Test.YtbmgiidecidojaaDoorReg
namespace Go.Proofs.YtbmgiidecidojaaDoor
open Go.RowKit

/-- The block that a pointer leads to. -/
def blkOf : Value → Option Nat
  | .pointer (some a) => some a.block
  | _ => none
/-- What the F1-th and the F2-th operation hand back: a block that was not there. -/
def Fresh (F1 F2 i : Nat) (v : Value) (w w' : World) : Prop := i = F1 ∨ i = F2 → ∃ b, blkOf v = some b ∧ w.heap.size ≤ b ∧ b < w'.heap.size
def apart2 (F1 F2 n : Nat) (u1 u2 : Value) : Prop := F1 < n → F2 < n → F1 ≠ F2 → blkOf u1 ≠ blkOf u2

section
variable (P : Program) (R : World → World → Prop) (w0 : World) (Rs : Nat → World → World → Prop) (J : Nat → World → Prop) (F1 F2 : Nat) (l : List Oper) (Q : Act → World → Prop)
/-- One operation, in whatever world of the class in which the facts hold. -/
def StepG (i : Nat) (o : Oper) (a : Act) (G : World → Prop) (q : Post) : Prop :=
  ∀ w, R w0 w → J i w → G w → yieldsW P (fun v w' => (R w w' ∧ Rs i w w' ∧ Fresh F1 F2 i v w w') ∧ okPost q v w') ((execOp a.eval o).run P w)
/-- The walk in the text's order. -/
def lexG : List Post → List Oper → Nat → Act → Value → Value → ((Nat → Bool) → World → Prop) → Prop
  | [], [], i, a, u1, u2, Φ => ∀ w, R w0 w → apart2 F1 F2 i u1 u2 → Φ (fun _ => true) w → Q a w
  | q :: qs, o :: os, i, a, u1, u2, Φ =>
    (if Region.wanted o (yielded l.toArray a.tmps) then StepG P R w0 Rs J F1 F2 i o a (Φ (bef l i)) q else q = .inl undef ∧ i ≠ F1 ∧ i ≠ F2) ∧
    (match q with
      | .inl u => lexG qs os (i + 1) (a.put o.dst u) (if i = F1 then u else u1) (if i = F2 then u else u2) Φ
      | .inr p => (∀ j, j ≠ i → ∀ v w w', p v w → Rs j w w' → p v w') ∧ ∀ v, lexG qs os (i + 1) (a.put o.dst v) (if i = F1 then v else u1) (if i = F2 then v else u2) (fun d w => (d i = true → p v w) ∧ Φ d w))
  | _, _, _, _, _, _, _ => False
end

section
variable {P : Program} {R : World → World → Prop} {w0 : World} {Rs : Nat → World → World → Prop} {J : Nat → World → Prop} {F1 F2 : Nat} {l : List Oper} {Q : Act → World → Prop}
/-- What the walk in the text's order has shown of each operation among the first n0, and of the end. -/
theorem lexG_at (hst : stat l = true) {a0 : Act} {σ : Nat → Value} (n0 : Nat) (hn0 : n0 ≤ l.length) (allq : List Post) (hlq : allq.length = n0) (hfit : ∀ i q, allq[i]? = some q → fits q (σ i)) :
    ∀ (qs : List Post) (os : List Oper) (i : Nat) (a : Act) (u1 u2 : Value) (Φ : (Nat → Bool) → World → Prop), i + os.length = n0 → (∀ k, k < os.length → os[k]? = l[i + k]?) → (∀ k, qs[k]? = allq[i + k]?) → lexG P R w0 Rs J F1 F2 l Q qs os i a u1 u2 Φ → Frm l a0 (· < i) σ a → (F1 < i → u1 = σ F1) → (F2 < i → u2 = σ F2) →
      (∀ d w, (∀ j q, j < i → allq[j]? = some q → d j = true → okPost q (σ j) w) → Φ d w) →
      (∀ j o, i ≤ j → j < n0 → l[j]? = some o → ∃ a q, allq[j]? = some q ∧ Frm l a0 (· < j) σ a ∧
        (if Region.wanted o (yielded l.toArray a.tmps) then StepG P R w0 Rs J F1 F2 j o a (fun w => ∀ k q, k < j → allq[k]? = some q → bef l j k = true → okPost q (σ k) w) q else q = .inl undef ∧ j ≠ F1 ∧ j ≠ F2)) ∧
      (∃ a, Frm l a0 (· < n0) σ a ∧ ∀ w, R w0 w → apart2 F1 F2 n0 (σ F1) (σ F2) → (∀ j q, allq[j]? = some q → j < n0 → okPost q (σ j) w) → Q a w)
  | [], [], i, a, u1, u2, Φ, hin, hl, hq, h, hf, hu1, hu2, hΦ => by
    have hi : i = n0 := by simpa using hin
    subst hi
    refine ⟨fun j o hj hj2 ho => by omega, a, hf, fun w hw hap hall => h w hw (fun h1 h2 h3 => by rw [hu1 h1, hu2 h2]; exact hap h1 h2 h3) (hΦ _ _ fun j q hj hq2 _ => hall j q hq2 hj)⟩
  | [], _ :: _, _, _, _, _, _, _, _, _, h, _, _, _, _ => h.elim
  | _ :: _, [], _, _, _, _, _, _, _, _, h, _, _, _, _ => h.elim
  | q :: qs, o :: os, i, a, u1, u2, Φ, hin, hl, hq, h, hf, hu1, hu2, hΦ => by
    simp only [List.length_cons] at hin hl
    have ho : l[i]? = some o := by simpa using (hl 0 (by omega)).symm
    have hq0 : allq[i]? = some q := by simpa using (hq 0).symm
    have hl' : ∀ k, k < os.length → os[k]? = l[i + 1 + k]? := fun k hk => by have := hl (k + 1) (by omega); simp only [List.getElem?_cons_succ] at this; rw [this]; congr 1; omega
    have hq' : ∀ k, qs[k]? = allq[i + 1 + k]? := fun k => by have := hq (k + 1); simp only [List.getElem?_cons_succ] at this; rw [this]; congr 1; omega
    have hput : ∀ v, σ i = v → Frm l a0 (· < i + 1) σ (a.put o.dst v) := fun v hv => hf.put hst ho v (fun _ _ _ => rfl) hv (fun j => by omega)
    obtain ⟨hstep, hrest⟩ := h
    have hfq := hfit i q hq0
    have hv1 : ∀ v, σ i = v → F1 < i + 1 → (if i = F1 then v else u1) = σ F1 := fun v hv hlt => by
      by_cases e : i = F1
      · rw [if_pos e, ← hv, e]
      · rw [if_neg e]; exact hu1 (by omega)
    have hv2 : ∀ v, σ i = v → F2 < i + 1 → (if i = F2 then v else u2) = σ F2 := fun v hv hlt => by
      by_cases e : i = F2
      · rw [if_pos e, ← hv, e]
      · rw [if_neg e]; exact hu2 (by omega)
    have key : (∀ j o, i + 1 ≤ j → j < n0 → l[j]? = some o → ∃ a q, allq[j]? = some q ∧ Frm l a0 (· < j) σ a ∧
        (if Region.wanted o (yielded l.toArray a.tmps) then StepG P R w0 Rs J F1 F2 j o a (fun w => ∀ k q, k < j → allq[k]? = some q → bef l j k = true → okPost q (σ k) w) q else q = .inl undef ∧ j ≠ F1 ∧ j ≠ F2)) ∧
      (∃ a, Frm l a0 (· < n0) σ a ∧ ∀ w, R w0 w → apart2 F1 F2 n0 (σ F1) (σ F2) → (∀ j q, allq[j]? = some q → j < n0 → okPost q (σ j) w) → Q a w) := by
      cases q with
      | inl u => exact lexG_at hst n0 hn0 allq hlq hfit qs os (i + 1) _ _ _ Φ (by omega) hl' hq' hrest (hput u hfq) (hv1 u hfq) (hv2 u hfq) fun d w hall => hΦ d w fun j q hj hq2 hd => hall j q (by omega) hq2 hd
      | inr p =>
        refine lexG_at hst n0 hn0 allq hlq hfit qs os (i + 1) _ _ _ _ (by omega) hl' hq' (hrest.2 (σ i)) (hput _ rfl) (hv1 _ rfl) (hv2 _ rfl) fun d w hall => ⟨fun hd => ?_, hΦ d w fun j q hj hq2 hd => hall j q (by omega) hq2 hd⟩
        exact hall i _ (by omega) hq0 hd
    refine ⟨fun j x hj hj2 hx => ?_, key.2⟩
    rcases Nat.lt_or_ge i j with hlt | hge
    · exact key.1 j x hlt hj2 hx
    · obtain rfl : j = i := by omega
      rw [ho] at hx
      cases hx
      refine ⟨a, q, hq0, hf, ?_⟩
      by_cases hw : Region.wanted o (yielded l.toArray a.tmps) = true
      · rw [if_pos hw] at hstep ⊢
        intro w hR hJ hG
        exact hstep w hR hJ (hΦ _ _ fun k q hk hq2 hb => hG k q hk hq2 hb)
      · rw [if_neg hw] at hstep ⊢
        exact hstep

theorem lexG_len : ∀ (qs : List Post) (os : List Oper) (i : Nat) (a : Act) (u1 u2 : Value) (Φ : (Nat → Bool) → World → Prop), lexG P R w0 Rs J F1 F2 l Q qs os i a u1 u2 Φ → qs.length = os.length
  | [], [], _, _, _, _, _, _ => rfl
  | [], _ :: _, _, _, _, _, _, h => h.elim
  | _ :: _, [], _, _, _, _, _, h => h.elim
  | q :: qs, o :: os, i, a, u1, u2, Φ, h => by
    have := h.2
    simp only [List.length_cons]
    cases q with
    | inl u => rw [lexG_len qs os _ _ _ _ _ this]
    | inr p => rw [lexG_len qs os _ _ _ _ _ (this.2 undef)]
theorem lexG_stab : ∀ (qs : List Post) (os : List Oper) (i : Nat) (a : Act) (u1 u2 : Value) (Φ : (Nat → Bool) → World → Prop), lexG P R w0 Rs J F1 F2 l Q qs os i a u1 u2 Φ → ∀ k p, qs[k]? = some (.inr p) → ∀ j, j ≠ i + k → ∀ v w w', p v w → Rs j w w' → p v w'
  | [], _, _, _, _, _, _, _, k, p, hp => by simp at hp
  | _ :: _, [], _, _, _, _, _, h, _, _, _ => h.elim
  | q :: qs, o :: os, i, a, u1, u2, Φ, h, 0, p, hp => by
    have := h.2
    simp at hp
    subst hp
    exact this.1
  | q :: qs, o :: os, i, a, u1, u2, Φ, h, k + 1, p, hp => by
    have := h.2
    simp only [List.getElem?_cons_succ] at hp
    intro j hj
    cases q with
    | inl u => exact lexG_stab qs os _ _ _ _ _ this k p hp j (by omega)
    | inr p' => exact lexG_stab qs os _ _ _ _ _ (this.2 undef) k p hp j (by omega)

/-- One operation, as it comes up in whatever order. -/
theorem wpOp_of_stepG {Q' : Exit → Act → World → Prop} {i : Nat} {o : Oper} {a b : Act} {w : World} {K : Act → World → Prop} {G : World → Prop} {q : Post} (ho : l[i]? = some o) (hs : ∀ cs b, o.op ≠ .select cs b)
    (hag : ∀ t ∈ o.looksAt l.toArray, a.tmps[t]? = b.tmps[t]?)
    (h : if Region.wanted o (yielded l.toArray a.tmps) then StepG P R w0 Rs J F1 F2 i o a G q else q = .inl undef ∧ i ≠ F1 ∧ i ≠ F2) (hR : R w0 w) (hJ : J i w) (hG : G w) (hrefl : R w w) (hreflS : Rs i w w)
    (hK : ∀ v w', R w w' → Rs i w w' → Fresh F1 F2 i v w w' → okPost q v w' → K (b.put o.dst v) w') : wpOp P l.toArray Q' i K b w := by
  unfold wpOp
  rw [show l.toArray[i]? = some o from by simpa using ho]
  simp only
  rw [← wanted_same hag]
  split
  · rename_i hw
    rw [if_pos hw] at h
    have h1 := h w hR hJ hG
    rw [execOp_same hs hag] at h1
    exact .inl (wp_of_yields (fun v w' hv => hK v w' hv.1.1 hv.1.2.1 hv.1.2.2 hv.2) h1)
  · rename_i hw
    rw [if_neg (by simpa using hw)] at h
    obtain ⟨rfl, hf1, hf2⟩ := h
    exact hK _ _ hrefl hreflS (fun e => by rcases e with e | e; exact absurd e hf1; exact absurd e hf2) rfl

/-- All operations but the k-th one have run. -/
theorem wpAny_last {Q' : Exit → Act → World → Prop} (hst : stat l = true) : ∀ (fuel k : Nat) (listed : Array Bool) (a : Act) (w : World), k < l.length → listed.size = l.length → unlisted l listed ≤ fuel → (∀ j, j < l.length → (listed.getD j false = true ↔ j ≠ k)) →
    wpOp P l.toArray Q' k (fun a w => Q' .normal a w) a w → wpAny P .any l.toArray Q' fuel listed a w := by
  intro fuel k listed a w hk hsz hun hls h
  have hnk : ¬ listed.getD k false = true := fun h => (hls k hk).1 h rfl
  cases fuel with
  | zero =>
    exfalso
    have hz : unlisted l listed = 0 := by omega
    unfold unlisted at hz
    rw [List.countP_eq_zero] at hz
    have := hz k (by simpa using hk)
    rw [getD_tf (by omega)] at this
    exact hnk (by simpa using this)
  | succ fuel =>
    refine ⟨fun hr => absurd (all_listed hst hsz hr (k + 1) k (by omega) hk) hnk, fun i hi => ?_⟩
    obtain ⟨h1, o, h2, _⟩ := mem_ready.1 hi
    have ho : l[i]? = some o := by simpa using h2
    have hlt : i < l.length := (List.getElem?_eq_some_iff.1 ho).1
    have hni : ¬ listed.getD i false = true := by rw [← getD_tf (by omega), h1]; simp
    obtain rfl : i = k := Decidable.byContradiction fun e => hni ((hls i hlt).2 e)
    refine wpOp_mono (fun a' w' h => ?_) h
    refine wpAny_done (ready_nil (by simpa using hsz) fun j hj => (getD_set (listed := listed) (i := i) (by omega) j).2 ?_) h _
    by_cases hji : j = i
    · exact .inr hji
    · exact .inl ((hls j hj).2 hji)
/-- All operations but the last two have run; these run in either order. -/
theorem wpAny_pair {Q' : Exit → Act → World → Prop} (hst : stat l = true) {n : Nat} (hn : n + 2 = l.length) (fuel : Nat) (listed : Array Bool) (a : Act) (w : World) (hsz : listed.size = l.length) (hun : unlisted l listed ≤ fuel)
    (hls : ∀ j, listed.getD j false = true ↔ j < n) (h1 : wpOp P l.toArray Q' n (wpOp P l.toArray Q' (n + 1) (fun a w => Q' .normal a w)) a w) (h2 : wpOp P l.toArray Q' (n + 1) (wpOp P l.toArray Q' n (fun a w => Q' .normal a w)) a w) :
    wpAny P .any l.toArray Q' fuel listed a w := by
  have hnk : ¬ listed.getD n false = true := fun h => Nat.lt_irrefl _ ((hls n).1 h)
  cases fuel with
  | zero =>
    exfalso
    have hz : unlisted l listed = 0 := by omega
    unfold unlisted at hz
    rw [List.countP_eq_zero] at hz
    have := hz n (by simp; omega)
    rw [getD_tf (by omega)] at this
    exact hnk (by simpa using this)
  | succ fuel =>
    refine ⟨fun hr => absurd (all_listed hst hsz hr (n + 1) n (by omega) (by omega)) hnk, fun i hi => ?_⟩
    obtain ⟨g1, o, g2, _⟩ := mem_ready.1 hi
    have ho : l[i]? = some o := by simpa using g2
    have hlt : i < l.length := (List.getElem?_eq_some_iff.1 ho).1
    have hni : ¬ listed.getD i false = true := by rw [← getD_tf (by omega), g1]; simp
    have hset := getD_set (listed := listed) (i := i) (by omega)
    have hun' : unlisted l (listed.setIfInBounds i true) ≤ fuel := by have := unlisted_set hsz hlt g1; omega
    have hcase : i = n ∨ i = n + 1 := by
      rcases Nat.lt_or_ge i n with h | h
      · exact absurd ((hls i).2 h) hni
      · omega
    rcases hcase with rfl | rfl
    · refine wpOp_mono (fun a' w' h => wpAny_last hst fuel (i + 1) _ a' w' (by omega) (by simpa using hsz) hun' (fun j hj => ?_) h) h1
      rw [hset j, hls j]; omega
    · refine wpOp_mono (fun a' w' h => wpAny_last hst fuel n _ a' w' (by omega) (by simpa using hsz) hun' (fun j hj => ?_) h) h2
      rw [hset j, hls j]; omega

/-- What stands behind the first n0 operations, whatever order. -/
def restW (P : Program) (l : List Oper) (Q' : Exit → Act → World → Prop) (n0 : Nat) (a : Act) (w : World) : Prop :=
  ∀ (fuel : Nat) (listed : Array Bool), listed.size = l.length → unlisted l listed ≤ fuel → Shut l (fun i => listed.getD i false = true) → (∀ j, listed.getD j false = true ↔ j < n0) → wpAny P .any l.toArray Q' fuel listed a w
/-- How the region ends: all its operations have been walked; or all but some last ones, each of which waits for all of these. -/
def EndsG (P : Program) (l : List Oper) (Q : Act → World → Prop) (Q' : Exit → Act → World → Prop) (n0 : Nat) : Prop :=
  (n0 = l.length ∧ ∀ a w, Q a w → Q' .normal a w) ∨
  (n0 < l.length ∧ (∀ i, n0 ≤ i → i < l.length → ∀ j, j < n0 → bef l i j = true) ∧ ∀ a w, Q a w → restW P l Q' n0 a w)

theorem wpAny_lexG {Q' : Exit → Act → World → Prop} (hst : stat l = true) (hrefl : ∀ w, R w w) (hreflS : ∀ i w, Rs i w w) (hsize : ∀ a b, R a b → a.heap.size ≤ b.heap.size) (hJst : ∀ j i, i ≠ j → ∀ w w', J j w → Rs i w w' → J j w') (htrans : ∀ a b c, R a b → R b c → R a c) (n0 : Nat) (hends : EndsG P l Q Q' n0) (allq : List Post) (hlq : allq.length = n0)
    (hstab : ∀ k p, allq[k]? = some (.inr p) → ∀ j, j ≠ k → ∀ v w w', p v w → Rs j w w' → p v w') {a0 : Act} {os0 : List Oper} (hos : os0.length = n0) (hosl : ∀ k, k < os0.length → os0[k]? = l[k]?) (hlex : lexG P R w0 Rs J F1 F2 l Q allq os0 0 a0 undef undef (fun _ _ => True)) :
    ∀ (fuel : Nat) (listed : Array Bool) (a : Act) (w : World) (σ : Nat → Value), listed.size = l.length → unlisted l listed ≤ fuel → R w0 w → (∀ i, ¬ listed.getD i false = true → J i w) → ((∀ i, i = F1 ∨ i = F2 → listed.getD i false = true → ∃ b, blkOf (σ i) = some b ∧ b < w.heap.size) ∧ (F1 ≠ F2 → listed.getD F1 false = true → listed.getD F2 false = true → blkOf (σ F1) ≠ blkOf (σ F2))) → Shut l (fun i => listed.getD i false = true) → (∀ i, n0 ≤ i → ¬ listed.getD i false = true) →
      (∀ i q, allq[i]? = some q → fits q (σ i)) → (∀ i q, allq[i]? = some q → listed.getD i false = true → okPost q (σ i) w) → Frm l a0 (fun i => listed.getD i false = true) σ a →
      wpAny P .any l.toArray Q' fuel listed a w := by
  have hn0 : n0 ≤ l.length := by rcases hends with h | h <;> omega
  intro fuel
  induction fuel with
  | zero =>
    intro listed a w σ hsz hun hR hJ hF hsh hend0 hfit hok hf
    have hz : unlisted l listed = 0 := by omega
    have hall : ∀ i, i < l.length → listed.getD i false = true := by
      intro i hi
      unfold unlisted at hz
      rw [List.countP_eq_zero] at hz
      have := hz i (by simpa using hi)
      rw [← getD_tf (by omega)]
      simpa using this
    rcases hends with ⟨hn, hQ⟩ | ⟨hn, _, _⟩
    · obtain ⟨_, b, hb, hend⟩ := lexG_at hst n0 hn0 allq hlq hfit allq os0 0 a0 _ _ _ (by omega) (by simpa using hosl) (by simp) hlex (Frm.start a0 σ (by simp)) (fun h => by omega) (fun h => by omega) (fun _ _ _ => trivial)
      have hab : b = a := by
        refine Frm.ext_ (S := fun i => listed.getD i false = true) (σ := σ) ⟨hb.1, hb.2.1, fun t hx => hb.2.2.1 t fun i o ho hi => hx i o ho (hall i (by omega)), fun i o t ho hi hd hlt => hb.2.2.2 i o t ho (by have := (List.getElem?_eq_some_iff.1 ho).1; show i < n0; omega) hd hlt⟩ hf
      subst hab
      exact ⟨ready_nil hsz hall, hQ _ _ (hend w hR (fun h1 h2 h3 => hF.2 h3 (hall _ (by omega)) (hall _ (by omega))) fun j q hq hj => hok j q hq (hall j (by omega)))⟩
    · exact absurd (hall n0 (by omega)) (hend0 n0 (Nat.le_refl _))
  | succ fuel ih =>
    intro listed a w σ hsz hun hR hJ hF hsh hend0 hfit hok hf
    obtain ⟨hsteps, b, hb, hend⟩ := lexG_at hst n0 hn0 allq hlq hfit allq os0 0 a0 _ _ _ (by omega) (by simpa using hosl) (by simp) hlex (Frm.start a0 σ (by simp)) (fun h => by omega) (fun h => by omega) (fun _ _ _ => trivial)
    have hfin : (∀ i, i < n0 → listed.getD i false = true) → Q a w := by
      intro hall
      have hab : b = a := by
        refine Frm.ext_ (S := fun i => listed.getD i false = true) (σ := σ) ⟨hb.1, hb.2.1, fun t hx => hb.2.2.1 t fun i o ho hi => hx i o ho (hall i hi), fun i o t ho hi hd hlt => hb.2.2.2 i o t ho ?_ hd hlt⟩ hf
        show i < n0
        rcases Nat.lt_or_ge i n0 with h | h
        · exact h
        · exact absurd hi (hend0 i h)
      subst hab
      exact hend w hR (fun h1 h2 h3 => hF.2 h3 (hall _ h1) (hall _ h2)) fun j q hq hj => hok j q hq (hall j hj)
    refine ⟨fun hr => ?_, fun i hi => ?_⟩
    · have hall : ∀ i, i < l.length → listed.getD i false = true := fun i hi => all_listed hst hsz hr (i + 1) i (by omega) hi
      rcases hends with ⟨hn, hQ⟩ | ⟨hn, _, _⟩
      · exact hQ _ _ (hfin fun i hi => hall i (by omega))
      · exact absurd (hall n0 (by omega)) (hend0 n0 (Nat.le_refl _))
    · obtain ⟨h1, o, h2, hpre⟩ := mem_ready.1 hi
      have ho : l[i]? = some o := by simpa using h2
      have hlt : i < l.length := (List.getElem?_eq_some_iff.1 ho).1
      have hni : ¬ listed.getD i false = true := by rw [← getD_tf (by omega), h1]; simp
      have hbef : ∀ j, bef l i j = true → j ≠ i → listed.getD j false = true := fun j hj hne => bef_of_ready hsh ho hpre hj hne
      have hset := getD_set (listed := listed) (i := i) (by omega)
      have hnew : ∀ (i : Nat) (v : Value) (w' : World), ¬ listed.getD i false = true → (∀ j, (listed.setIfInBounds i true).getD j false = true ↔ listed.getD j false = true ∨ j = i) → w.heap.size ≤ w'.heap.size → Fresh F1 F2 i v w w' →
          ((∀ k, k = F1 ∨ k = F2 → (listed.setIfInBounds i true).getD k false = true → ∃ b, blkOf (if k = i then v else σ k) = some b ∧ b < w'.heap.size) ∧ (F1 ≠ F2 → (listed.setIfInBounds i true).getD F1 false = true → (listed.setIfInBounds i true).getD F2 false = true → blkOf (if F1 = i then v else σ F1) ≠ blkOf (if F2 = i then v else σ F2))) := by
        intro i v w' hni hset hsz' hfr
        refine ⟨fun k hk hl' => ?_, fun h12 hl1 hl2 => ?_⟩
        · by_cases e : k = i
          · rw [if_pos e]
            obtain ⟨b, hb1, _, hb3⟩ := hfr (e ▸ hk)
            exact ⟨b, hb1, hb3⟩
          · rw [if_neg e]
            obtain ⟨b, hb1, hb2⟩ := hF.1 k hk (((hset k).1 hl').resolve_right e)
            exact ⟨b, hb1, by omega⟩
        · by_cases e1 : F1 = i
          · have e2 : ¬ F2 = i := fun e2 => h12 (e1.trans e2.symm)
            rw [if_pos e1, if_neg e2]
            obtain ⟨b, hb1, hb2, _⟩ := hfr (.inl e1.symm)
            obtain ⟨b', hb1', hb2'⟩ := hF.1 F2 (.inr rfl) (((hset F2).1 hl2).resolve_right e2)
            rw [hb1, hb1']
            intro e; have := Option.some.inj e; omega
          · rw [if_neg e1]
            have h1 := ((hset F1).1 hl1).resolve_right e1
            by_cases e2 : F2 = i
            · rw [if_pos e2]
              obtain ⟨b, hb1, hb2, _⟩ := hfr (.inr e2.symm)
              obtain ⟨b', hb1', hb2'⟩ := hF.1 F1 (.inl rfl) h1
              rw [hb1, hb1']
              intro e; have := Option.some.inj e; omega
            · rw [if_neg e2]
              exact hF.2 h12 h1 (((hset F2).1 hl2).resolve_right e2)
      by_cases hin : i < n0
      · obtain ⟨c, q, hq, hc, hstep⟩ := hsteps i o (Nat.zero_le _) hin ho
        have hag : ∀ t ∈ o.looksAt l.toArray, c.tmps[t]? = a.tmps[t]? := by
          refine hc.agree hf fun t ht j x hx hd => ?_
          rcases stat_look hst ho hx ht hd with rfl | ⟨hj, hbj⟩ | ⟨hj, hbj⟩
          · exact ⟨fun h => absurd h (Nat.lt_irrefl _), fun h => absurd h hni⟩
          · exact ⟨fun _ => hbef j hbj (by omega), fun _ => hj⟩
          · exact ⟨fun h => absurd h hj, fun h => absurd (bef_in hsh h hbj) hni⟩
        refine wpOp_of_stepG ho (stat_sel hst ho) hag hstep hR (hJ i hni) (fun k q' hk hq' hb' => hok k q' hq' (hbef k hb' (by omega))) (hrefl w) (hreflS i w) fun v w' hRw hRs hfr hokv => ?_
        refine ih _ _ w' (fun j => if j = i then v else σ j) (by simpa using hsz) ?_ (htrans _ _ _ hR hRw) (fun j hj => hJst j i (fun e => hj ((hset j).2 (.inr e.symm))) _ _ (hJ j (fun h => hj ((hset j).2 (.inl h)))) hRs) (hnew i v w' hni hset (hsize _ _ hRw) hfr) ?_ ?_ ?_ ?_ ?_
        · have hcl : unlisted l (listed.setIfInBounds i true) < unlisted l listed := by
            refine count_lt (i := i) (fun x hx => ?_) ?_ ?_ _ (by simpa using hlt)
            · by_cases hxi : x = i
              · subst hxi
                rw [h1]; rfl
              · have : i ≠ x := fun e => hxi e.symm
                rw [Array.getD_eq_getD_getElem?, Array.getElem?_setIfInBounds_ne this, ← Array.getD_eq_getD_getElem?] at hx
                exact hx
            · rw [h1]; rfl
            · simp [Array.getD, hsz, hlt]
          omega
        · intro j x hx hj e he hb'
          refine (hset _).2 (.inl ?_)
          rcases (hset j).1 hj with hj | rfl
          · exact hsh j x hx hj e he hb'
          · rw [ho] at hx
            cases hx
            exact hpre e he hb'
        · intro j hj hjs
          rcases (hset j).1 hjs with hjs | rfl
          · exact hend0 j hj hjs
          · omega
        · intro j q' hq'
          show fits q' (if j = i then v else σ j)
          split
          · rename_i hj
            subst hj
            rw [hq] at hq'
            cases hq'
            cases q with
            | inl u => exact hokv
            | inr p => trivial
          · exact hfit j q' hq'
        · intro j q' hq' hj
          show okPost q' (if j = i then v else σ j) w'
          split
          · rename_i hji
            subst hji
            rw [hq] at hq'
            cases hq'
            exact hokv
          · rename_i hji
            have hold := hok j q' hq' (((hset j).1 hj).resolve_right hji)
            cases q' with
            | inl u => exact hold
            | inr p => exact hstab j p hq' i (fun e => hji e.symm) _ _ _ hold hRs
        · exact hf.put hst ho v (fun j _ hne => by simp [hne]) (by simp) hset
      · rcases hends with ⟨hn, _⟩ | ⟨hn, hall, hT⟩
        · omega
        · have hal : ∀ j, j < n0 → listed.getD j false = true := fun j hj => hbef j (hall i (by omega) hlt j hj) (by omega)
          refine (hT _ _ (hfin hal) (fuel + 1) listed hsz hun hsh (fun j => ⟨fun h => ?_, hal j⟩)).2 i hi
          rcases Nat.lt_or_ge j n0 with h3 | h3
          · exact h3
          · exact absurd h (hend0 j h3)

theorem wp_region_lexG_n {id : Nat} {Q' : Exit → Act → World → Prop} {a : Act} (hm : P.follows .mixedOrders = true) (hst : stat l = true) (hrefl : ∀ w, R w w) (hreflS : ∀ i w, Rs i w w) (hsize : ∀ a b, R a b → a.heap.size ≤ b.heap.size) (hJst : ∀ j i, i ≠ j → ∀ w w', J j w → Rs i w w' → J j w') (htrans : ∀ a b c, R a b → R b c → R a c) (hdrew : R w0 w0.drew) (hJ0 : ∀ i, J i w0.drew)
    (qs : List Post) (n0 : Nat) (hends : EndsG P l Q Q' n0) {os0 : List Oper} (hos : os0.length = n0) (hosl : ∀ k, k < os0.length → os0[k]? = l[k]?) (h : lexG P R w0 Rs J F1 F2 l Q qs os0 0 a undef undef (fun _ _ => True)) :
    (Code.region id l.toArray true).wp P Q' a w0 := by
  refine wp_region_any hm ?_
  refine wpAny_lexG hst hrefl hreflS hsize hJst htrans n0 hends qs ((lexG_len _ _ _ _ _ _ _ h).trans hos) (fun k p hp j hj => lexG_stab _ _ _ _ _ _ _ h k p hp j (by rw [Nat.zero_add]; exact hj)) hos hosl h _ _ _ _ (fun i => match qs[i]? with | some (.inl u) => u | _ => undef) (by simp) ?_ hdrew (fun i _ => hJ0 i) ⟨fun i _ hi => by simp [Array.getD] at hi, fun _ hi => by simp [Array.getD] at hi⟩ ?_ ?_ ?_ ?_ (Frm.start _ _ ?_)
  · refine Nat.le_trans List.countP_le_length ?_
    simp
  · intro i o ho hi
    simp [Array.getD] at hi
  · intro i _ hi
    simp [Array.getD] at hi
  · intro i q hq
    simp only [hq]
    cases q <;> simp [fits]
  · intro i q hq hi
    simp [Array.getD] at hi
  · intro i hi
    simp [Array.getD] at hi

/-- **THE LAW.** -/
theorem wp_region_lexG {id : Nat} {Q' : Exit → Act → World → Prop} {a : Act} (hm : P.follows .mixedOrders = true) (hst : stat l = true) (hrefl : ∀ w, R w w) (hreflS : ∀ i w, Rs i w w) (hsize : ∀ a b, R a b → a.heap.size ≤ b.heap.size) (hJst : ∀ j i, i ≠ j → ∀ w w', J j w → Rs i w w' → J j w') (htrans : ∀ a b c, R a b → R b c → R a c) (hdrew : R w0 w0.drew) (hJ0 : ∀ i, J i w0.drew)
    (qs : List Post) (h : lexG P R w0 Rs J F1 F2 l (fun a w => Q' .normal a w) qs l 0 a undef undef (fun _ _ => True)) :
    (Code.region id l.toArray true).wp P Q' a w0 :=
  wp_region_lexG_n hm hst hrefl hreflS hsize hJst htrans hdrew hJ0 qs l.length (.inl ⟨rfl, fun _ _ h => h⟩) rfl (fun _ _ => rfl) h

/-- **THE LAW, WHERE SOME LAST OPERATIONS WAIT FOR ALL AHEAD OF THEM** (a store behind calls and loads; a writing call and what follows): these are walked as ever. 'n': the place of the first of them. -/
theorem wp_region_lexG_tails {id : Nat} {Q' : Exit → Act → World → Prop} {a : Act} (n : Nat) (hlen : n < l.length) (hall : ((List.range l.length).all fun i => decide (i < n) || (List.range i).all (fun j => bef l i j)) = true) (hm : P.follows .mixedOrders = true) (hst : stat l = true) (hrefl : ∀ w, R w w) (hreflS : ∀ i w, Rs i w w) (hsize : ∀ a b, R a b → a.heap.size ≤ b.heap.size) (hJst : ∀ j i, i ≠ j → ∀ w w', J j w → Rs i w w' → J j w') (htrans : ∀ a b c, R a b → R b c → R a c) (hdrew : R w0 w0.drew) (hJ0 : ∀ i, J i w0.drew)
    (qs : List Post) (h : lexG P R w0 Rs J F1 F2 l (fun a w => wpList P l.toArray Q' (l.drop n) a w) qs (l.take n) 0 a undef undef (fun _ _ => True)) :
    (Code.region id l.toArray true).wp P Q' a w0 := by
  have hbf : ∀ i, n ≤ i → i < l.length → ∀ j, j < i → bef l i j = true := fun i hi hl j hj => by
    rw [List.all_eq_true] at hall
    have := hall i (by simpa using hl)
    rw [Bool.or_eq_true] at this
    rcases this with h | h
    · have := of_decide_eq_true h; omega
    · rw [List.all_eq_true] at h
      exact h j (by simpa using hj)
  refine wp_region_lexG_n hm hst hrefl hreflS hsize hJst htrans hdrew hJ0 qs n (.inr ⟨hlen, fun i hi hl j hj => hbf i hi hl j (by omega), fun a w h fuel listed hsz hun hsh hls => wpAny_tail hst fuel n listed a w (by omega) hbf hsz hun hsh hls (wpList_W _ n a w rfl h)⟩) (by simp; omega) (fun k hk => ?_) h
  rw [List.getElem?_take, if_pos (by simp at hk; omega)]
/-- **THE LAW, WHERE THE LAST TWO OPERATIONS WAIT FOR ALL OTHERS, BUT NOT FOR ONE ANOTHER** (two stores). -/
theorem wp_region_lexG_pair {id : Nat} {Q' : Exit → Act → World → Prop} {a : Act} (n : Nat) {o1 o2 : Oper} (hlen : n + 2 = l.length) (ho1 : l[n]? = some o1) (ho2 : l[n + 1]? = some o2) (hg1 : o1.guard = none) (hg2 : o2.guard = none) (hall : ((List.range n).all fun j => bef l n j && bef l (n + 1) j) = true) (hm : P.follows .mixedOrders = true) (hst : stat l = true) (hrefl : ∀ w, R w w) (hreflS : ∀ i w, Rs i w w) (hsize : ∀ a b, R a b → a.heap.size ≤ b.heap.size) (hJst : ∀ j i, i ≠ j → ∀ w w', J j w → Rs i w w' → J j w') (htrans : ∀ a b c, R a b → R b c → R a c) (hdrew : R w0 w0.drew) (hJ0 : ∀ i, J i w0.drew)
    (qs : List Post) (h : lexG P R w0 Rs J F1 F2 l (fun a w => wpList P l.toArray Q' [o1, o2] a w ∧ wpList P l.toArray Q' [o2, o1] a w) qs (l.take n) 0 a undef undef (fun _ _ => True)) :
    (Code.region id l.toArray true).wp P Q' a w0 := by
  have hop : ∀ k o (K : Act → World → Prop) a w, l[k]? = some o → o.guard = none → (o.wp P a w K Q' ∨ (o.asks P a w ∧ LetsOut Q')) → wpOp P l.toArray Q' k K a w := by
    intro k o K a w ho hg h
    unfold wpOp
    rw [show l.toArray[k]? = some o from by simpa using ho]
    simp only
    rw [if_pos (by simp [Region.wanted, hg])]
    exact h
  have hw : ∀ o o' a w, o.guard = none → o'.guard = none → wpList P l.toArray Q' [o, o'] a w → (o.wp P a w (fun a w => o'.wp P a w (fun a w => Q' .normal a w) Q' ∨ (o'.asks P a w ∧ LetsOut Q')) Q' ∨ (o.asks P a w ∧ LetsOut Q')) := by
    intro o o' a w hg hg' h
    unfold wpList at h
    rw [if_pos (by simp [Region.wanted, hg])] at h
    refine h.imp (fun h => Oper.wp_mono (fun a w h => ?_) h) fun x => x
    unfold wpList at h
    rw [if_pos (by simp [Region.wanted, hg'])] at h
    exact h
  refine wp_region_lexG_n hm hst hrefl hreflS hsize hJst htrans hdrew hJ0 qs n (.inr ⟨by omega, fun i hi hl j hj => ?_, fun a w h fuel listed hsz hun hsh hls => ?_⟩) (by simp; omega) (fun k hk => ?_) h
  · rw [List.all_eq_true] at hall
    have := hall j (by simpa using hj)
    rw [Bool.and_eq_true] at this
    rcases (show i = n ∨ i = n + 1 by omega) with rfl | rfl
    · exact this.1
    · exact this.2
  · refine wpAny_pair hst hlen fuel listed a w hsz hun hls ?_ ?_
    · exact hop n o1 _ a w ho1 hg1 ((hw o1 o2 a w hg1 hg2 h.1).imp (fun h => Oper.wp_mono (fun a w h => hop (n + 1) o2 _ a w ho2 hg2 h) h) fun x => x)
    · exact hop (n + 1) o2 _ a w ho2 hg2 ((hw o2 o1 a w hg2 hg1 h.2).imp (fun h => Oper.wp_mono (fun a w h => hop n o1 _ a w ho1 hg1 h) h) fun x => x)
  · rw [List.getElem?_take, if_pos (by simp at hk; omega)]
end

section
variable {P : Program} {R : World → World → Prop} {w0 : World} {Rs : Nat → World → World → Prop} {J : Nat → World → Prop} {F1 F2 : Nat} {l : List Oper} {Q : Act → World → Prop}
variable {o : Oper} {os : List Oper} {qs : List Post} {i : Nat} {a : Act} {u1 u2 : Value} {Φ : (Nat → Bool) → World → Prop}
theorem lexG_nil (h : ∀ w, R w0 w → apart2 F1 F2 i u1 u2 → Φ (fun _ => true) w → Q a w) : lexG P R w0 Rs J F1 F2 l Q [] [] i a u1 u2 Φ := h
/-- It yields this one value, and leaves the world alone. -/
theorem lexG_ex {u : Value} (hF1 : i ≠ F1) (hF2 : i ≠ F2) (hrefl : ∀ w, R w w) (hreflS : ∀ i w, Rs i w w) (hw : Region.wanted o (yielded l.toArray a.tmps) = true) (hrun : ∀ w, R w0 w → J i w → Φ (bef l i) w → (execOp a.eval o).run P w = .ok (.value u) w)
    (h : lexG P R w0 Rs J F1 F2 l Q qs os (i + 1) (a.put o.dst u) (if i = F1 then u else u1) (if i = F2 then u else u2) Φ) : lexG P R w0 Rs J F1 F2 l Q (.inl u :: qs) (o :: os) i a u1 u2 Φ := by
  refine ⟨?_, h⟩
  rw [if_pos hw]
  intro w hR hJ hΦ
  rw [hrun w hR hJ hΦ]
  exact ⟨⟨hrefl w, hreflS i w, fun e => by rcases e with e | e; exact absurd e hF1; exact absurd e hF2⟩, rfl⟩
/-- It is not wanted. -/
theorem lexG_skip (hF1 : i ≠ F1) (hF2 : i ≠ F2) (hw : Region.wanted o (yielded l.toArray a.tmps) = false) (h : lexG P R w0 Rs J F1 F2 l Q qs os (i + 1) (a.put o.dst undef) (if i = F1 then undef else u1) (if i = F2 then undef else u2) Φ) : lexG P R w0 Rs J F1 F2 l Q (.inl undef :: qs) (o :: os) i a u1 u2 Φ := by
  refine ⟨?_, h⟩
  rw [if_neg (by rw [hw]; simp)]
  exact ⟨rfl, hF1, hF2⟩
/-- An operation that writes or makes memory, and hands back a value of which a fact holds. -/
theorem lexG_new {p : Value → World → Prop} (hF1 : i ≠ F1) (hF2 : i ≠ F2) (hst : ∀ j, j ≠ i → ∀ v w w', p v w → Rs j w w' → p v w') (hw : Region.wanted o (yielded l.toArray a.tmps) = true) (hrun : ∀ w, R w0 w → J i w → Φ (bef l i) w → ∃ u w', (execOp a.eval o).run P w = .ok (.value u) w' ∧ R w w' ∧ Rs i w w' ∧ p u w')
    (h : ∀ v, lexG P R w0 Rs J F1 F2 l Q qs os (i + 1) (a.put o.dst v) (if i = F1 then v else u1) (if i = F2 then v else u2) (fun d w => (d i = true → p v w) ∧ Φ d w)) : lexG P R w0 Rs J F1 F2 l Q (.inr p :: qs) (o :: os) i a u1 u2 Φ := by
  refine ⟨?_, hst, h⟩
  rw [if_pos hw]
  intro w hR hJ hΦ
  obtain ⟨u, w', hu, hRw, hRs, hp⟩ := hrun w hR hJ hΦ
  rw [hu]
  exact ⟨⟨hRw, hRs, fun e => by rcases e with e | e; exact absurd e hF1; exact absurd e hF2⟩, hp⟩
/-- An operation that makes a new block, and hands back a pointer to it. -/
theorem lexG_fresh {p : Value → World → Prop} (hst : ∀ j, j ≠ i → ∀ v w w', p v w → Rs j w w' → p v w') (hw : Region.wanted o (yielded l.toArray a.tmps) = true) (hrun : ∀ w, R w0 w → J i w → Φ (bef l i) w → ∃ u w', (execOp a.eval o).run P w = .ok (.value u) w' ∧ (∃ b, blkOf u = some b ∧ w.heap.size ≤ b ∧ b < w'.heap.size) ∧ R w w' ∧ Rs i w w' ∧ p u w')
    (h : ∀ v, lexG P R w0 Rs J F1 F2 l Q qs os (i + 1) (a.put o.dst v) (if i = F1 then v else u1) (if i = F2 then v else u2) (fun d w => (d i = true → p v w) ∧ Φ d w)) : lexG P R w0 Rs J F1 F2 l Q (.inr p :: qs) (o :: os) i a u1 u2 Φ := by
  refine ⟨?_, hst, h⟩
  rw [if_pos hw]
  intro w hR hJ hΦ
  obtain ⟨u, w', hu, hfr, hRw, hRs, hp⟩ := hrun w hR hJ hΦ
  rw [hu]
  exact ⟨⟨hRw, hRs, fun _ => hfr⟩, hp⟩
/-- A call that hands back a value of which a fact holds (new memory). -/
theorem lexG_call {p : Value → World → Prop} (hF1 : i ≠ F1) (hF2 : i ≠ F2) {f : FuncId} {args : Array Value} (hst : ∀ j, j ≠ i → ∀ v w w', p v w → Rs j w w' → p v w') (hw : Region.wanted o (yielded l.toArray a.tmps) = true)
    (hrun : ∀ w, (execOp a.eval o).run P w = .ok (.enter f args) w) (hcall : ∀ w, R w0 w → J i w → Φ (bef l i) w → Calls P f args w fun e w' => ∃ v, e = .returned v ∧ R w w' ∧ Rs i w w' ∧ p v w')
    (h : ∀ v, lexG P R w0 Rs J F1 F2 l Q qs os (i + 1) (a.put o.dst v) (if i = F1 then v else u1) (if i = F2 then v else u2) (fun d w => (d i = true → p v w) ∧ Φ d w)) : lexG P R w0 Rs J F1 F2 l Q (.inr p :: qs) (o :: os) i a u1 u2 Φ := by
  refine ⟨?_, hst, h⟩
  rw [if_pos hw]
  intro w hR hJ hΦ
  rw [hrun w]
  exact (hcall w hR hJ hΦ).mono fun e w' ⟨v, hv, h1, h2, h3⟩ => ⟨v, hv, ⟨h1, h2, fun e => by rcases e with e | e; exact absurd e hF1; exact absurd e hF2⟩, h3⟩
/-- A call that hands back this one value. -/
theorem lexG_callx {u : Value} (hF1 : i ≠ F1) (hF2 : i ≠ F2) {f : FuncId} {args : Array Value} (hw : Region.wanted o (yielded l.toArray a.tmps) = true)
    (hrun : ∀ w, (execOp a.eval o).run P w = .ok (.enter f args) w) (hcall : ∀ w, R w0 w → J i w → Φ (bef l i) w → Calls P f args w fun e w' => e = .returned u ∧ R w w' ∧ Rs i w w')
    (h : lexG P R w0 Rs J F1 F2 l Q qs os (i + 1) (a.put o.dst u) (if i = F1 then u else u1) (if i = F2 then u else u2) Φ) : lexG P R w0 Rs J F1 F2 l Q (.inl u :: qs) (o :: os) i a u1 u2 Φ := by
  refine ⟨?_, h⟩
  rw [if_pos hw]
  intro w hR hJ hΦ
  rw [hrun w]
  exact (hcall w hR hJ hΦ).mono fun e w' h => ⟨u, h.1, ⟨h.2.1, h.2.2, fun e => by rcases e with e | e; exact absurd e hF1; exact absurd e hF2⟩, rfl⟩
end
end Go.Proofs.YtbmgiidecidojaaDoor
