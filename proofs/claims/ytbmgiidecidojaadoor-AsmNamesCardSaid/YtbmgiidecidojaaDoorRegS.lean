/- The law of regions that draw their order (RegG), where a fact told of one operation's value, and what an operation does to memory, may speak of the values of those that it waits for: the walk is made for every table σ of values. No program in sight. -/
import Derived.Test.YtbmgiidecidojaaDoorRegG
namespace Go.Proofs.YtbmgiidecidojaaDoor
open Go.RowKit

abbrev PostS := Value ⊕ ((Nat → Value) → World → Prop)
def upd (σ : Nat → Value) (i : Nat) (v : Value) : Nat → Value := fun j => if j = i then v else σ j
def okS (q : PostS) (σ : Nat → Value) (i : Nat) (w : World) : Prop := match q with | .inl u => σ i = u | .inr p => p σ w
def fitS (q : PostS) (v : Value) : Prop := match q with | .inl u => v = u | .inr _ => True
theorem upd_ne {σ : Nat → Value} {i j : Nat} {v : Value} (h : j ≠ i) : upd σ i v j = σ j := if_neg h
theorem upd_eq {σ : Nat → Value} {i : Nat} {v : Value} : upd σ i v i = v := if_pos rfl
/-- The two fresh blocks lie apart, where both have been made when the j-th operation runs behind the k-th. -/
def apS (F1 F2 : Nat) (l : List Oper) (k j : Nat) (σ : Nat → Value) : Prop :=
  F1 ≠ F2 → (F1 = k ∨ bef l k F1 = true ∨ (bef l j F1 = true ∧ F1 ≠ j)) → (F2 = k ∨ bef l k F2 = true ∨ (bef l j F2 = true ∧ F2 ≠ j)) → blkOf (σ F1) ≠ blkOf (σ F2)
/-- A fact of the i-th operation speaks only of what it waits for, and outlives what the others do. -/
def Keeps (Rs : Nat → (Nat → Value) → World → World → Prop) (F1 F2 : Nat) (l : List Oper) (i : Nat) (p : (Nat → Value) → World → Prop) : Prop :=
  (∀ j σ v w, j ≠ i → bef l i j = false → p σ w → p (upd σ j v) w) ∧
  ∀ j, j ≠ i → bef l i j = false → ∀ σ w w', apS F1 F2 l i j σ → p σ w → Rs j σ w w' → p σ w'

section
variable (P : Program) (R : World → World → Prop) (w0 : World) (Rs : Nat → (Nat → Value) → World → World → Prop) (J : Nat → World → Prop) (F1 F2 : Nat) (l : List Oper) (Q : Act → World → Prop)
/-- One operation, in whatever world of the class in which the facts hold. -/
def StepS (σ : Nat → Value) (i : Nat) (o : Oper) (a : Act) (G : World → Prop) (q : PostS) : Prop :=
  ∀ w, R w0 w → J i w → G w → yieldsW P (fun v w' => (R w w' ∧ Rs i σ w w' ∧ Fresh F1 F2 i v w w') ∧ okS q (upd σ i v) i w') ((execOp a.eval o).run P w)
/-- The walk in the text's order. -/
def lexS (σ : Nat → Value) : List PostS → List Oper → Nat → Act → ((Nat → Bool) → World → Prop) → Prop
  | [], [], i, a, Φ => ∀ w, R w0 w → apart2 F1 F2 i (σ F1) (σ F2) → Φ (fun _ => true) w → Q a w
  | q :: qs, o :: os, i, a, Φ =>
    (if Region.wanted o (yielded l.toArray a.tmps) then StepS P R w0 Rs J F1 F2 σ i o a (Φ (bef l i)) q else q = .inl undef ∧ i ≠ F1 ∧ i ≠ F2) ∧
    (match q with
      | .inl u => lexS σ qs os (i + 1) (a.put o.dst u) Φ
      | .inr p => Keeps Rs F1 F2 l i p ∧ lexS σ qs os (i + 1) (a.put o.dst (σ i)) (fun d w => (d i = true → p σ w) ∧ Φ d w))
  | _, _, _, _, _ => False
end

section
variable {P : Program} {R : World → World → Prop} {w0 : World} {Rs : Nat → (Nat → Value) → World → World → Prop} {J : Nat → World → Prop} {F1 F2 : Nat} {l : List Oper} {Q : Act → World → Prop}
/-- What the walk in the text's order has shown of each operation among the first n0, and of the end. -/
theorem lexS_at (hst : stat l = true) {a0 : Act} {σ : Nat → Value} (n0 : Nat) (hn0 : n0 ≤ l.length) (allq : List PostS) (hlq : allq.length = n0) (hfit : ∀ i q, allq[i]? = some q → fitS q (σ i)) :
    ∀ (qs : List PostS) (os : List Oper) (i : Nat) (a : Act) (Φ : (Nat → Bool) → World → Prop), i + os.length = n0 → (∀ k, k < os.length → os[k]? = l[i + k]?) → (∀ k, qs[k]? = allq[i + k]?) → lexS P R w0 Rs J F1 F2 l Q σ qs os i a Φ → Frm l a0 (· < i) σ a →
      (∀ d w, (∀ j q, j < i → allq[j]? = some q → d j = true → okS q σ j w) → Φ d w) →
      (∀ j o, i ≤ j → j < n0 → l[j]? = some o → ∃ a q, allq[j]? = some q ∧ Frm l a0 (· < j) σ a ∧
        (if Region.wanted o (yielded l.toArray a.tmps) then StepS P R w0 Rs J F1 F2 σ j o a (fun w => ∀ k q, k < j → allq[k]? = some q → bef l j k = true → okS q σ k w) q else q = .inl undef ∧ j ≠ F1 ∧ j ≠ F2)) ∧
      (∃ a, Frm l a0 (· < n0) σ a ∧ ∀ w, R w0 w → apart2 F1 F2 n0 (σ F1) (σ F2) → (∀ j q, allq[j]? = some q → j < n0 → okS q σ j w) → Q a w)
  | [], [], i, a, Φ, hin, hl, hq, h, hf, hΦ => by
    have hi : i = n0 := by simpa using hin
    subst hi
    refine ⟨fun j o hj hj2 ho => by omega, a, hf, fun w hw hap hall => h w hw hap (hΦ _ _ fun j q hj hq2 _ => hall j q hq2 hj)⟩
  | [], _ :: _, _, _, _, _, _, _, h, _, _ => h.elim
  | _ :: _, [], _, _, _, _, _, _, h, _, _ => h.elim
  | q :: qs, o :: os, i, a, Φ, hin, hl, hq, h, hf, hΦ => by
    simp only [List.length_cons] at hin hl
    have ho : l[i]? = some o := by simpa using (hl 0 (by omega)).symm
    have hq0 : allq[i]? = some q := by simpa using (hq 0).symm
    have hl' : ∀ k, k < os.length → os[k]? = l[i + 1 + k]? := fun k hk => by have := hl (k + 1) (by omega); simp only [List.getElem?_cons_succ] at this; rw [this]; congr 1; omega
    have hq' : ∀ k, qs[k]? = allq[i + 1 + k]? := fun k => by have := hq (k + 1); simp only [List.getElem?_cons_succ] at this; rw [this]; congr 1; omega
    have hput : ∀ v, σ i = v → Frm l a0 (· < i + 1) σ (a.put o.dst v) := fun v hv => hf.put hst ho v (fun _ _ _ => rfl) hv (fun j => by omega)
    obtain ⟨hstep, hrest⟩ := h
    have hfq := hfit i q hq0
    have key : (∀ j o, i + 1 ≤ j → j < n0 → l[j]? = some o → ∃ a q, allq[j]? = some q ∧ Frm l a0 (· < j) σ a ∧
        (if Region.wanted o (yielded l.toArray a.tmps) then StepS P R w0 Rs J F1 F2 σ j o a (fun w => ∀ k q, k < j → allq[k]? = some q → bef l j k = true → okS q σ k w) q else q = .inl undef ∧ j ≠ F1 ∧ j ≠ F2)) ∧
      (∃ a, Frm l a0 (· < n0) σ a ∧ ∀ w, R w0 w → apart2 F1 F2 n0 (σ F1) (σ F2) → (∀ j q, allq[j]? = some q → j < n0 → okS q σ j w) → Q a w) := by
      cases q with
      | inl u => exact lexS_at hst n0 hn0 allq hlq hfit qs os (i + 1) _ Φ (by omega) hl' hq' hrest (hput u hfq) fun d w hall => hΦ d w fun j q hj hq2 hd => hall j q (by omega) hq2 hd
      | inr p =>
        refine lexS_at hst n0 hn0 allq hlq hfit qs os (i + 1) _ _ (by omega) hl' hq' hrest.2 (hput _ rfl) fun d w hall => ⟨fun hd => ?_, hΦ d w fun j q hj hq2 hd => hall j q (by omega) hq2 hd⟩
        exact hall i _ (by omega) hq0 hd
    refine ⟨fun j x hj hj2 hx => ?_, key.2⟩
    rcases Nat.lt_or_ge i j with hlt | hge
    · exact key.1 j x hlt hj2 hx
    · obtain rfl : j = i := by omega
      rw [ho] at hx
      cases hx
      refine ⟨a, q, hq0, hf, ?_⟩
      by_cases hw : Region.wanted o (yielded l.toArray a.tmps) = true
      · rw [if_pos hw] at hstep ⊢
        intro w hR hJ hG
        exact hstep w hR hJ (hΦ _ _ fun k q hk hq2 hb => hG k q hk hq2 hb)
      · rw [if_neg hw] at hstep ⊢
        exact hstep

theorem lexS_len {σ : Nat → Value} : ∀ (qs : List PostS) (os : List Oper) (i : Nat) (a : Act) (Φ : (Nat → Bool) → World → Prop), lexS P R w0 Rs J F1 F2 l Q σ qs os i a Φ → qs.length = os.length
  | [], [], _, _, _, _ => rfl
  | [], _ :: _, _, _, _, h => h.elim
  | _ :: _, [], _, _, _, h => h.elim
  | q :: qs, o :: os, i, a, Φ, h => by
    have := h.2
    simp only [List.length_cons]
    cases q with
    | inl u => rw [lexS_len qs os _ _ _ this]
    | inr p => rw [lexS_len qs os _ _ _ this.2]
theorem lexS_stab {σ : Nat → Value} : ∀ (qs : List PostS) (os : List Oper) (i : Nat) (a : Act) (Φ : (Nat → Bool) → World → Prop), lexS P R w0 Rs J F1 F2 l Q σ qs os i a Φ → ∀ k p, qs[k]? = some (.inr p) → Keeps Rs F1 F2 l (i + k) p
  | [], _, _, _, _, _, k, p, hp => by simp at hp
  | _ :: _, [], _, _, _, h, _, _, _ => h.elim
  | q :: qs, o :: os, i, a, Φ, h, 0, p, hp => by
    have := h.2
    simp at hp
    subst hp
    exact this.1
  | q :: qs, o :: os, i, a, Φ, h, k + 1, p, hp => by
    have := h.2
    simp only [List.getElem?_cons_succ] at hp
    rw [show i + (k + 1) = i + 1 + k by omega]
    cases q with
    | inl u => exact lexS_stab qs os _ _ _ this k p hp
    | inr p' => exact lexS_stab qs os _ _ _ this.2 k p hp

/-- One operation, as it comes up in whatever order. -/
theorem wpOp_of_stepS {Q' : Exit → Act → World → Prop} {σ : Nat → Value} {i : Nat} {o : Oper} {a b : Act} {w : World} {K : Act → World → Prop} {G : World → Prop} {q : PostS} (ho : l[i]? = some o) (hs : ∀ cs b, o.op ≠ .select cs b)
    (hag : ∀ t ∈ o.looksAt l.toArray, a.tmps[t]? = b.tmps[t]?)
    (h : if Region.wanted o (yielded l.toArray a.tmps) then StepS P R w0 Rs J F1 F2 σ i o a G q else q = .inl undef ∧ i ≠ F1 ∧ i ≠ F2) (hR : R w0 w) (hJ : J i w) (hG : G w) (hrefl : R w w) (hreflS : Rs i σ w w)
    (hK : ∀ v w', R w w' → Rs i σ w w' → Fresh F1 F2 i v w w' → okS q (upd σ i v) i w' → K (b.put o.dst v) w') : wpOp P l.toArray Q' i K b w := by
  unfold wpOp
  rw [show l.toArray[i]? = some o from by simpa using ho]
  simp only
  rw [← wanted_same hag]
  split
  · rename_i hw
    rw [if_pos hw] at h
    have h1 := h w hR hJ hG
    rw [execOp_same hs hag] at h1
    exact .inl (wp_of_yields (fun v w' hv => hK v w' hv.1.1 hv.1.2.1 hv.1.2.2 hv.2) h1)
  · rename_i hw
    rw [if_neg (by simpa using hw)] at h
    obtain ⟨rfl, hf1, hf2⟩ := h
    exact hK _ _ hrefl hreflS (fun e => by rcases e with e | e; exact absurd e hf1; exact absurd e hf2) (upd_eq)

theorem wpAny_lexS {Q' : Exit → Act → World → Prop} (hst : stat l = true) (hrefl : ∀ w, R w w) (hreflS : ∀ i σ w, Rs i σ w w) (hsize : ∀ a b, R a b → a.heap.size ≤ b.heap.size) (hJst : ∀ j i σ, i ≠ j → bef l i j = false → ∀ w w', J j w → Rs i σ w w' → J j w') (htrans : ∀ a b c, R a b → R b c → R a c) (n0 : Nat) (hends : EndsG P l Q Q' n0) (allq : List PostS) (hlq : allq.length = n0)
    (hstab : ∀ k p, allq[k]? = some (.inr p) → Keeps Rs F1 F2 l k p) {a0 : Act} {os0 : List Oper} (hos : os0.length = n0) (hosl : ∀ k, k < os0.length → os0[k]? = l[k]?) (hlex : ∀ σ, lexS P R w0 Rs J F1 F2 l Q σ allq os0 0 a0 (fun _ _ => True)) :
    ∀ (fuel : Nat) (listed : Array Bool) (a : Act) (w : World) (σ : Nat → Value), listed.size = l.length → unlisted l listed ≤ fuel → R w0 w → (∀ i, ¬ listed.getD i false = true → J i w) → ((∀ i, i = F1 ∨ i = F2 → listed.getD i false = true → ∃ b, blkOf (σ i) = some b ∧ b < w.heap.size) ∧ (F1 ≠ F2 → listed.getD F1 false = true → listed.getD F2 false = true → blkOf (σ F1) ≠ blkOf (σ F2))) → Shut l (fun i => listed.getD i false = true) → (∀ i, n0 ≤ i → ¬ listed.getD i false = true) →
      (∀ i q, allq[i]? = some q → fitS q (σ i)) → (∀ i q, allq[i]? = some q → listed.getD i false = true → okS q σ i w) → Frm l a0 (fun i => listed.getD i false = true) σ a →
      wpAny P .any l.toArray Q' fuel listed a w := by
  have hn0 : n0 ≤ l.length := by rcases hends with h | h <;> omega
  intro fuel
  induction fuel with
  | zero =>
    intro listed a w σ hsz hun hR hJ hF hsh hend0 hfit hok hf
    have hz : unlisted l listed = 0 := by omega
    have hall : ∀ i, i < l.length → listed.getD i false = true := by
      intro i hi
      unfold unlisted at hz
      rw [List.countP_eq_zero] at hz
      have := hz i (by simpa using hi)
      rw [← getD_tf (by omega)]
      simpa using this
    rcases hends with ⟨hn, hQ⟩ | ⟨hn, _, _⟩
    · obtain ⟨_, b, hb, hend⟩ := lexS_at hst n0 hn0 allq hlq hfit allq os0 0 a0 _ (by omega) (by simpa using hosl) (by simp) (hlex σ) (Frm.start a0 σ (by simp)) (fun _ _ _ => trivial)
      have hab : b = a := by
        refine Frm.ext_ (S := fun i => listed.getD i false = true) (σ := σ) ⟨hb.1, hb.2.1, fun t hx => hb.2.2.1 t fun i o ho hi => hx i o ho (hall i (by omega)), fun i o t ho hi hd hlt => hb.2.2.2 i o t ho (by have := (List.getElem?_eq_some_iff.1 ho).1; show i < n0; omega) hd hlt⟩ hf
      subst hab
      exact ⟨ready_nil hsz hall, hQ _ _ (hend w hR (fun h1 h2 h3 => hF.2 h3 (hall _ (by omega)) (hall _ (by omega))) fun j q hq hj => hok j q hq (hall j (by omega)))⟩
    · exact absurd (hall n0 (by omega)) (hend0 n0 (Nat.le_refl _))
  | succ fuel ih =>
    intro listed a w σ hsz hun hR hJ hF hsh hend0 hfit hok hf
    obtain ⟨hsteps, b, hb, hend⟩ := lexS_at hst n0 hn0 allq hlq hfit allq os0 0 a0 _ (by omega) (by simpa using hosl) (by simp) (hlex σ) (Frm.start a0 σ (by simp)) (fun _ _ _ => trivial)
    have hfin : (∀ i, i < n0 → listed.getD i false = true) → Q a w := by
      intro hall
      have hab : b = a := by
        refine Frm.ext_ (S := fun i => listed.getD i false = true) (σ := σ) ⟨hb.1, hb.2.1, fun t hx => hb.2.2.1 t fun i o ho hi => hx i o ho (hall i hi), fun i o t ho hi hd hlt => hb.2.2.2 i o t ho ?_ hd hlt⟩ hf
        show i < n0
        rcases Nat.lt_or_ge i n0 with h | h
        · exact h
        · exact absurd hi (hend0 i h)
      subst hab
      exact hend w hR (fun h1 h2 h3 => hF.2 h3 (hall _ h1) (hall _ h2)) fun j q hq hj => hok j q hq (hall j hj)
    refine ⟨fun hr => ?_, fun i hi => ?_⟩
    · have hall : ∀ i, i < l.length → listed.getD i false = true := fun i hi => all_listed hst hsz hr (i + 1) i (by omega) hi
      rcases hends with ⟨hn, hQ⟩ | ⟨hn, _, _⟩
      · exact hQ _ _ (hfin fun i hi => hall i (by omega))
      · exact absurd (hall n0 (by omega)) (hend0 n0 (Nat.le_refl _))
    · obtain ⟨h1, o, h2, hpre⟩ := mem_ready.1 hi
      have ho : l[i]? = some o := by simpa using h2
      have hlt : i < l.length := (List.getElem?_eq_some_iff.1 ho).1
      have hni : ¬ listed.getD i false = true := by rw [← getD_tf (by omega), h1]; simp
      have hbef : ∀ j, bef l i j = true → j ≠ i → listed.getD j false = true := fun j hj hne => bef_of_ready hsh ho hpre hj hne
      have hset := getD_set (listed := listed) (i := i) (by omega)
      have hnew : ∀ (i : Nat) (v : Value) (w' : World), ¬ listed.getD i false = true → (∀ j, (listed.setIfInBounds i true).getD j false = true ↔ listed.getD j false = true ∨ j = i) → w.heap.size ≤ w'.heap.size → Fresh F1 F2 i v w w' →
          ((∀ k, k = F1 ∨ k = F2 → (listed.setIfInBounds i true).getD k false = true → ∃ b, blkOf (if k = i then v else σ k) = some b ∧ b < w'.heap.size) ∧ (F1 ≠ F2 → (listed.setIfInBounds i true).getD F1 false = true → (listed.setIfInBounds i true).getD F2 false = true → blkOf (if F1 = i then v else σ F1) ≠ blkOf (if F2 = i then v else σ F2))) := by
        intro i v w' hni hset hsz' hfr
        refine ⟨fun k hk hl' => ?_, fun h12 hl1 hl2 => ?_⟩
        · by_cases e : k = i
          · rw [if_pos e]
            obtain ⟨b, hb1, _, hb3⟩ := hfr (e ▸ hk)
            exact ⟨b, hb1, hb3⟩
          · rw [if_neg e]
            obtain ⟨b, hb1, hb2⟩ := hF.1 k hk (((hset k).1 hl').resolve_right e)
            exact ⟨b, hb1, by omega⟩
        · by_cases e1 : F1 = i
          · have e2 : ¬ F2 = i := fun e2 => h12 (e1.trans e2.symm)
            rw [if_pos e1, if_neg e2]
            obtain ⟨b, hb1, hb2, _⟩ := hfr (.inl e1.symm)
            obtain ⟨b', hb1', hb2'⟩ := hF.1 F2 (.inr rfl) (((hset F2).1 hl2).resolve_right e2)
            rw [hb1, hb1']
            intro e; have := Option.some.inj e; omega
          · rw [if_neg e1]
            have h1 := ((hset F1).1 hl1).resolve_right e1
            by_cases e2 : F2 = i
            · rw [if_pos e2]
              obtain ⟨b, hb1, hb2, _⟩ := hfr (.inr e2.symm)
              obtain ⟨b', hb1', hb2'⟩ := hF.1 F1 (.inl rfl) h1
              rw [hb1, hb1']
              intro e; have := Option.some.inj e; omega
            · rw [if_neg e2]
              exact hF.2 h12 h1 (((hset F2).1 hl2).resolve_right e2)
      by_cases hin : i < n0
      · obtain ⟨c, q, hq, hc, hstep⟩ := hsteps i o (Nat.zero_le _) hin ho
        have hag : ∀ t ∈ o.looksAt l.toArray, c.tmps[t]? = a.tmps[t]? := by
          refine hc.agree hf fun t ht j x hx hd => ?_
          rcases stat_look hst ho hx ht hd with rfl | ⟨hj, hbj⟩ | ⟨hj, hbj⟩
          · exact ⟨fun h => absurd h (Nat.lt_irrefl _), fun h => absurd h hni⟩
          · exact ⟨fun _ => hbef j hbj (by omega), fun _ => hj⟩
          · exact ⟨fun h => absurd h hj, fun h => absurd (bef_in hsh h hbj) hni⟩
        refine wpOp_of_stepS ho (stat_sel hst ho) hag hstep hR (hJ i hni) (fun k q' hk hq' hb' => hok k q' hq' (hbef k hb' (by omega))) (hrefl w) (hreflS i σ w) fun v w' hRw hRs hfr hokv => ?_
        refine ih _ _ w' (upd σ i v) (by simpa using hsz) ?_ (htrans _ _ _ hR hRw) (fun j hj => hJst j i σ (fun e => hj ((hset j).2 (.inr e.symm))) (by cases hb : bef l i j with | false => rfl | true => exact absurd ((hset j).2 (.inl (hbef j hb (fun e => hj ((hset j).2 (.inr e)))))) hj) _ _ (hJ j (fun h => hj ((hset j).2 (.inl h)))) hRs) (hnew i v w' hni hset (hsize _ _ hRw) hfr) ?_ ?_ ?_ ?_ ?_
        · have hcl : unlisted l (listed.setIfInBounds i true) < unlisted l listed := by
            refine count_lt (i := i) (fun x hx => ?_) ?_ ?_ _ (by simpa using hlt)
            · by_cases hxi : x = i
              · subst hxi
                rw [h1]; rfl
              · have : i ≠ x := fun e => hxi e.symm
                rw [Array.getD_eq_getD_getElem?, Array.getElem?_setIfInBounds_ne this, ← Array.getD_eq_getD_getElem?] at hx
                exact hx
            · rw [h1]; rfl
            · simp [Array.getD, hsz, hlt]
          omega
        · intro j x hx hj e he hb'
          refine (hset _).2 (.inl ?_)
          rcases (hset j).1 hj with hj | rfl
          · exact hsh j x hx hj e he hb'
          · rw [ho] at hx
            cases hx
            exact hpre e he hb'
        · intro j hj hjs
          rcases (hset j).1 hjs with hjs | rfl
          · exact hend0 j hj hjs
          · omega
        · intro j q' hq'
          show fitS q' (if j = i then v else σ j)
          split
          · rename_i hj
            subst hj
            rw [hq] at hq'
            cases hq'
            cases q with
            | inl u => exact upd_eq.symm.trans hokv
            | inr p => trivial
          · exact hfit j q' hq'
        · intro j q' hq' hj
          by_cases hji : j = i
          · subst hji
            rw [hq] at hq'
            cases hq'
            exact hokv
          · have hjl := ((hset j).1 hj).resolve_right hji
            have hold := hok j q' hq' hjl
            cases q' with
            | inl u => exact (upd_ne hji).trans hold
            | inr p =>
              have hbf : bef l j i = false := by
                cases hb : bef l j i with
                | false => rfl
                | true => exact absurd (bef_in hsh hjl hb) hni
              have hk := hstab j p hq'
              refine hk.1 i σ v w' (fun e => hji e.symm) hbf (hk.2 i (fun e => hji e.symm) hbf σ w w' (fun h12 h1 h2 => hF.2 h12 ?_ ?_) hold hRs)
              · rcases h1 with e | e | ⟨e, e'⟩
                · exact e ▸ hjl
                · exact bef_in hsh hjl e
                · exact hbef _ e e'
              · rcases h2 with e | e | ⟨e, e'⟩
                · exact e ▸ hjl
                · exact bef_in hsh hjl e
                · exact hbef _ e e'
        · exact hf.put hst ho v (fun j _ hne => by simp [upd, hne]) (by simp [upd]) hset
      · rcases hends with ⟨hn, _⟩ | ⟨hn, hall, hT⟩
        · omega
        · have hal : ∀ j, j < n0 → listed.getD j false = true := fun j hj => hbef j (hall i (by omega) hlt j hj) (by omega)
          refine (hT _ _ (hfin hal) (fuel + 1) listed hsz hun hsh (fun j => ⟨fun h => ?_, hal j⟩)).2 i hi
          rcases Nat.lt_or_ge j n0 with h3 | h3
          · exact h3
          · exact absurd h (hend0 j h3)


/-- **THE LAW.** -/
theorem wp_region_lexS {id : Nat} {Q' : Exit → Act → World → Prop} {a : Act} (hm : P.follows .mixedOrders = true) (hst : stat l = true) (hrefl : ∀ w, R w w) (hreflS : ∀ i σ w, Rs i σ w w) (hsize : ∀ a b, R a b → a.heap.size ≤ b.heap.size) (hJst : ∀ j i σ, i ≠ j → bef l i j = false → ∀ w w', J j w → Rs i σ w w' → J j w') (htrans : ∀ a b c, R a b → R b c → R a c) (hdrew : R w0 w0.drew) (hJ0 : ∀ i, J i w0.drew)
    (qs : List PostS) (h : ∀ σ, lexS P R w0 Rs J F1 F2 l (fun a w => Q' .normal a w) σ qs l 0 a (fun _ _ => True)) :
    (Code.region id l.toArray true).wp P Q' a w0 := by
  refine wp_region_any hm ?_
  refine wpAny_lexS hst hrefl hreflS hsize hJst htrans l.length (.inl ⟨rfl, fun _ _ h => h⟩) qs (lexS_len _ _ _ _ _ (h fun _ => undef)) (fun k p hp => by have := lexS_stab _ _ _ _ _ (h fun _ => undef) k p hp; rwa [Nat.zero_add] at this) rfl (fun _ _ => rfl) h _ _ _ _ (fun i => match qs[i]? with | some (.inl u) => u | _ => undef) (by simp) ?_ hdrew (fun i _ => hJ0 i) ⟨fun i _ hi => by simp [Array.getD] at hi, fun _ hi => by simp [Array.getD] at hi⟩ ?_ ?_ ?_ ?_ (Frm.start _ _ ?_)
  · refine Nat.le_trans List.countP_le_length ?_
    simp
  · intro i o ho hi
    simp [Array.getD] at hi
  · intro i _ hi
    simp [Array.getD] at hi
  · intro i q hq
    simp only [hq]
    cases q <;> simp [fitS]
  · intro i q hq hi
    simp [Array.getD] at hi
  · intro i hi
    simp [Array.getD] at hi
end

section
variable {P : Program} {R : World → World → Prop} {w0 : World} {Rs : Nat → (Nat → Value) → World → World → Prop} {J : Nat → World → Prop} {F1 F2 : Nat} {l : List Oper} {Q : Act → World → Prop} {σ : Nat → Value}
variable {o : Oper} {os : List Oper} {qs : List PostS} {i : Nat} {a : Act} {Φ : (Nat → Bool) → World → Prop}
theorem lexS_nil (h : ∀ w, R w0 w → apart2 F1 F2 i (σ F1) (σ F2) → Φ (fun _ => true) w → Q a w) : lexS P R w0 Rs J F1 F2 l Q σ [] [] i a Φ := h
/-- It yields this one value, and leaves the world alone. -/
theorem lexS_ex {u : Value} (hF1 : i ≠ F1) (hF2 : i ≠ F2) (hrefl : ∀ w, R w w) (hreflS : ∀ i σ w, Rs i σ w w) (hw : Region.wanted o (yielded l.toArray a.tmps) = true) (hrun : ∀ w, R w0 w → J i w → Φ (bef l i) w → (execOp a.eval o).run P w = .ok (.value u) w)
    (h : lexS P R w0 Rs J F1 F2 l Q σ qs os (i + 1) (a.put o.dst u) Φ) : lexS P R w0 Rs J F1 F2 l Q σ (.inl u :: qs) (o :: os) i a Φ := by
  refine ⟨?_, h⟩
  rw [if_pos hw]
  intro w hR hJ hΦ
  rw [hrun w hR hJ hΦ]
  exact ⟨⟨hrefl w, hreflS i σ w, fun e => by rcases e with e | e; exact absurd e hF1; exact absurd e hF2⟩, upd_eq⟩
/-- It is not wanted. -/
theorem lexS_skip (hF1 : i ≠ F1) (hF2 : i ≠ F2) (hw : Region.wanted o (yielded l.toArray a.tmps) = false) (h : lexS P R w0 Rs J F1 F2 l Q σ qs os (i + 1) (a.put o.dst undef) Φ) : lexS P R w0 Rs J F1 F2 l Q σ (.inl undef :: qs) (o :: os) i a Φ := by
  refine ⟨?_, h⟩
  rw [if_neg (by rw [hw]; simp)]
  exact ⟨rfl, hF1, hF2⟩
/-- An operation that writes or makes memory, and hands back a value of which a fact holds. -/
theorem lexS_new {p : (Nat → Value) → World → Prop} (hF1 : i ≠ F1) (hF2 : i ≠ F2) (hk : Keeps Rs F1 F2 l i p) (hw : Region.wanted o (yielded l.toArray a.tmps) = true) (hrun : ∀ w, R w0 w → J i w → Φ (bef l i) w → ∃ u w', (execOp a.eval o).run P w = .ok (.value u) w' ∧ R w w' ∧ Rs i σ w w' ∧ p (upd σ i u) w')
    (h : lexS P R w0 Rs J F1 F2 l Q σ qs os (i + 1) (a.put o.dst (σ i)) (fun d w => (d i = true → p σ w) ∧ Φ d w)) : lexS P R w0 Rs J F1 F2 l Q σ (.inr p :: qs) (o :: os) i a Φ := by
  refine ⟨?_, hk, h⟩
  rw [if_pos hw]
  intro w hR hJ hΦ
  obtain ⟨u, w', hu, hRw, hRs, hp⟩ := hrun w hR hJ hΦ
  rw [hu]
  exact ⟨⟨hRw, hRs, fun e => by rcases e with e | e; exact absurd e hF1; exact absurd e hF2⟩, hp⟩
/-- An operation that makes a new block, and hands back a pointer to it. -/
theorem lexS_fresh {p : (Nat → Value) → World → Prop} (hk : Keeps Rs F1 F2 l i p) (hw : Region.wanted o (yielded l.toArray a.tmps) = true) (hrun : ∀ w, R w0 w → J i w → Φ (bef l i) w → ∃ u w', (execOp a.eval o).run P w = .ok (.value u) w' ∧ (∃ b, blkOf u = some b ∧ w.heap.size ≤ b ∧ b < w'.heap.size) ∧ R w w' ∧ Rs i σ w w' ∧ p (upd σ i u) w')
    (h : lexS P R w0 Rs J F1 F2 l Q σ qs os (i + 1) (a.put o.dst (σ i)) (fun d w => (d i = true → p σ w) ∧ Φ d w)) : lexS P R w0 Rs J F1 F2 l Q σ (.inr p :: qs) (o :: os) i a Φ := by
  refine ⟨?_, hk, h⟩
  rw [if_pos hw]
  intro w hR hJ hΦ
  obtain ⟨u, w', hu, hfr, hRw, hRs, hp⟩ := hrun w hR hJ hΦ
  rw [hu]
  exact ⟨⟨hRw, hRs, fun _ => hfr⟩, hp⟩
/-- An operation that writes, and hands back nothing. -/
theorem lexS_store {p : (Nat → Value) → World → Prop} (hF1 : i ≠ F1) (hF2 : i ≠ F2) (hk : Keeps Rs F1 F2 l i p) (hw : Region.wanted o (yielded l.toArray a.tmps) = true) (hrun : ∀ w, R w0 w → J i w → Φ (bef l i) w → ∃ w', (execOp a.eval o).run P w = .ok .skip w' ∧ R w w' ∧ Rs i σ w w' ∧ p (upd σ i undef) w')
    (h : lexS P R w0 Rs J F1 F2 l Q σ qs os (i + 1) (a.put o.dst (σ i)) (fun d w => (d i = true → p σ w) ∧ Φ d w)) : lexS P R w0 Rs J F1 F2 l Q σ (.inr p :: qs) (o :: os) i a Φ := by
  refine ⟨?_, hk, h⟩
  rw [if_pos hw]
  intro w hR hJ hΦ
  obtain ⟨w', hu, hRw, hRs, hp⟩ := hrun w hR hJ hΦ
  rw [hu]
  exact ⟨⟨hRw, hRs, fun e => by rcases e with e | e; exact absurd e hF1; exact absurd e hF2⟩, hp⟩
/-- A call that hands back a value of which a fact holds (new memory). -/
theorem lexS_call {p : (Nat → Value) → World → Prop} (hF1 : i ≠ F1) (hF2 : i ≠ F2) {f : FuncId} {args : Array Value} (hk : Keeps Rs F1 F2 l i p) (hw : Region.wanted o (yielded l.toArray a.tmps) = true)
    (hrun : ∀ w, (execOp a.eval o).run P w = .ok (.enter f args) w) (hcall : ∀ w, R w0 w → J i w → Φ (bef l i) w → Calls P f args w fun e w' => ∃ v, e = .returned v ∧ R w w' ∧ Rs i σ w w' ∧ p (upd σ i v) w')
    (h : lexS P R w0 Rs J F1 F2 l Q σ qs os (i + 1) (a.put o.dst (σ i)) (fun d w => (d i = true → p σ w) ∧ Φ d w)) : lexS P R w0 Rs J F1 F2 l Q σ (.inr p :: qs) (o :: os) i a Φ := by
  refine ⟨?_, hk, h⟩
  rw [if_pos hw]
  intro w hR hJ hΦ
  rw [hrun w]
  exact (hcall w hR hJ hΦ).mono fun e w' ⟨v, hv, h1, h2, h3⟩ => ⟨v, hv, ⟨h1, h2, fun e => by rcases e with e | e; exact absurd e hF1; exact absurd e hF2⟩, h3⟩
/-- A call that hands back this one value. -/
theorem lexS_callx {u : Value} (hF1 : i ≠ F1) (hF2 : i ≠ F2) {f : FuncId} {args : Array Value} (hw : Region.wanted o (yielded l.toArray a.tmps) = true)
    (hrun : ∀ w, (execOp a.eval o).run P w = .ok (.enter f args) w) (hcall : ∀ w, R w0 w → J i w → Φ (bef l i) w → Calls P f args w fun e w' => e = .returned u ∧ R w w' ∧ Rs i σ w w')
    (h : lexS P R w0 Rs J F1 F2 l Q σ qs os (i + 1) (a.put o.dst u) Φ) : lexS P R w0 Rs J F1 F2 l Q σ (.inl u :: qs) (o :: os) i a Φ := by
  refine ⟨?_, h⟩
  rw [if_pos hw]
  intro w hR hJ hΦ
  rw [hrun w]
  exact (hcall w hR hJ hΦ).mono fun e w' h => ⟨u, h.1, ⟨h.2.1, h.2.2, fun e => by rcases e with e | e; exact absurd e hF1; exact absurd e hF2⟩, upd_eq⟩
end
end Go.Proofs.YtbmgiidecidojaaDoor
