/- A region that draws its order, walked ONCE, in the order of the text: each operation yields one value, or a value of which a stable fact holds (the new memory that a call hands back); whatever order is drawn, what stands behind the region meets the same facts. No program in sight. -/
import Derived.Test.YtdhmmhbmgobibaaKit
import Derived.Orders
import Derived.Deep.Draws
namespace Go.Proofs.Ytdhmmhbmgobibaa
open Go.RowKit

/-- What is known of an operation's value: it is this one; or this fact holds of it and of each later world. -/
abbrev Post := Value ⊕ (Value → World → Prop)
def okPost (q : Post) (v : Value) (w : World) : Prop := match q with | .inl u => v = u | .inr p => p v w
def fits (q : Post) (v : Value) : Prop := match q with | .inl u => v = u | .inr _ => True

/-- Which operations come ahead of each, told as one number's bits. -/
def befMask (acc : List Nat) : List Edge → Nat
  | [] => 0
  | e :: es => if Region.binds .any e then befMask acc es ||| 2 ^ e.on ||| acc.getD e.on 0 else befMask acc es
def befGo (acc : List Nat) : List Oper → List Nat
  | [] => acc
  | o :: os => befGo (acc ++ [befMask acc o.after.toList]) os
def bef (l : List Oper) (i j : Nat) : Bool := ((befGo [] l).getD i 0).testBit j

/-- What the order must grant: edges go back; each slot has one writer; who reads a slot comes ahead of its writer, or behind it. -/
def dstIs (o : Oper) (t : Tmp) : Bool := match o.dst with | some d => d == t | none => false
def statAt (l : List Oper) (tab : List Nat) (i : Nat) (o : Oper) : Bool :=
  (o.after.toList.all fun e => !Region.binds .any e || decide (e.on < i)) &&
  (match o.op with | .select .. => false | _ => true) &&
  (l.zipIdx.all fun x => x.2 == i ||
    ((match o.dst with | some d => !dstIs x.1 d | none => true) &&
     ((o.looksAt l.toArray).all fun t => !dstIs x.1 t || (if x.2 < i then (tab.getD i 0).testBit x.2 else (tab.getD x.2 0).testBit i))))
def stat (l : List Oper) : Bool := l.zipIdx.all fun x => statAt l (befGo [] l) x.2 x.1

/-- An operation's run ends in a value (at once, or by a call) of which N holds. -/
def yieldsW (P : Program) (N : Value → World → Prop) : Result Next → Prop
  | .ok (.value v) w' => N v w'
  | .ok .skip w' => N undef w'
  | .ok (.enter f args) w' => Calls P f args w' fun e w'' => ∃ v, e = .returned v ∧ N v w''
  | _ => False

section
variable (P : Program) (R : World → World → Prop) (w0 : World) (l : List Oper) (Q : Act → World → Prop)

/-- One operation, in whatever world of the class in which the facts hold. -/
def Step (o : Oper) (a : Act) (G : World → Prop) (q : Post) : Prop :=
  ∀ w, R w0 w → G w → yieldsW P (fun v w' => R w w' ∧ okPost q v w') ((execOp a.eval o).run P w)

/-- The walk in the text's order. -/
def lex : List Post → List Oper → Nat → Act → ((Nat → Bool) → World → Prop) → Prop
  | [], [], _, a, Φ => ∀ w, R w0 w → Φ (fun _ => true) w → Q a w
  | q :: qs, o :: os, i, a, Φ =>
    (if Region.wanted o (yielded l.toArray a.tmps) then Step P R w0 o a (Φ (bef l i)) q else q = .inl undef) ∧
    (match q with
      | .inl u => lex qs os (i + 1) (a.put o.dst u) Φ
      | .inr p => (∀ v w w', p v w → R w w' → p v w') ∧ ∀ v, lex qs os (i + 1) (a.put o.dst v) (fun d w => (d i = true → p v w) ∧ Φ d w))
  | _, _, _, _, _ => False
end

/-! ### The proof -/
section
variable {P : Program} {R : World → World → Prop} {w0 : World} {l : List Oper} {Q : Act → World → Prop}

/-- The frame in which just the operations of S have written. -/
def Frm (l : List Oper) (a0 : Act) (S : Nat → Prop) (σ : Nat → Value) (a : Act) : Prop :=
  a.defers = a0.defers ∧ a.tmps.size = a0.tmps.size ∧
  (∀ t, (∀ i o, l[i]? = some o → S i → o.dst ≠ some t) → a.tmps[t]? = a0.tmps[t]?) ∧
  (∀ i o t, l[i]? = some o → S i → o.dst = some t → t < a0.tmps.size → a.tmps[t]? = some (σ i))

theorem dstIs_iff {o : Oper} {t : Tmp} : dstIs o t = true ↔ o.dst = some t := by
  unfold dstIs
  cases o.dst <;> simp

theorem stat_at (h : stat l = true) {i : Nat} {o : Oper} (ho : l[i]? = some o) : statAt l (befGo [] l) i o = true := by
  unfold stat at h
  rw [List.all_eq_true] at h
  have hm : (o, i) ∈ l.zipIdx := List.mk_mem_zipIdx_iff_getElem?.2 ho
  exact h _ hm
theorem stat_edge (h : stat l = true) {i : Nat} {o : Oper} (ho : l[i]? = some o) {e : Edge} (he : e ∈ o.after) (hb : Region.binds .any e = true) : e.on < i := by
  have h1 := stat_at h ho
  simp only [statAt, Bool.and_eq_true, List.all_eq_true] at h1
  have h2 := h1.1.1 e (by simpa using he)
  rw [hb] at h2
  simpa using h2
theorem stat_sel (h : stat l = true) {i : Nat} {o : Oper} (ho : l[i]? = some o) : ∀ cs b, o.op ≠ .select cs b := by
  intro cs b hsel
  have h1 := stat_at h ho
  simp only [statAt, Bool.and_eq_true] at h1
  have h2 := h1.1.2
  rw [hsel] at h2
  simp at h2
theorem stat_one (h : stat l = true) {i j : Nat} {o x : Oper} (ho : l[i]? = some o) (hx : l[j]? = some x) {t : Tmp} (h1 : o.dst = some t) (h2 : x.dst = some t) : i = j := by
  rcases Decidable.em (j = i) with e | e
  · exact e.symm
  · exfalso
    have h3 := stat_at h ho
    simp only [statAt, Bool.and_eq_true, List.all_eq_true] at h3
    have hm : (x, j) ∈ l.zipIdx := List.mk_mem_zipIdx_iff_getElem?.2 hx
    have h4 := h3.2 _ hm
    simp only [h1, dstIs_iff.2 h2, Bool.not_true, Bool.false_and, Bool.or_false, beq_iff_eq] at h4
    exact e h4
theorem stat_look (h : stat l = true) {i j : Nat} {o x : Oper} (ho : l[i]? = some o) (hx : l[j]? = some x) {t : Tmp} (h1 : t ∈ o.looksAt l.toArray) (h2 : x.dst = some t) :
    j = i ∨ (j < i ∧ bef l i j = true) ∨ (¬ j < i ∧ bef l j i = true) := by
  rcases Decidable.em (j = i) with e | e
  · exact .inl e
  · refine .inr ?_
    have h3 := stat_at h ho
    simp only [statAt, Bool.and_eq_true, List.all_eq_true] at h3
    have hm : (x, j) ∈ l.zipIdx := List.mk_mem_zipIdx_iff_getElem?.2 hx
    have h4 := h3.2 _ hm
    rw [Bool.or_eq_true] at h4
    rcases h4 with h4 | h4
    · exact absurd (by simpa using h4) e
    · rw [Bool.and_eq_true] at h4
      have h5 := h4.2
      rw [List.all_eq_true] at h5
      have h6 := h5 t h1
      rw [dstIs_iff.2 h2, Bool.not_true, Bool.false_or] at h6
      by_cases hlt : j < i
      · rw [if_pos hlt] at h6
        exact .inl ⟨hlt, h6⟩
      · rw [if_neg hlt] at h6
        exact .inr ⟨hlt, h6⟩

/-- S holds with each operation all that it waits for. -/
def Shut (l : List Oper) (S : Nat → Prop) : Prop := ∀ i o, l[i]? = some o → S i → ∀ e ∈ o.after, Region.binds .any e = true → S e.on

theorem befMask_spec {acc : List Nat} {S : Nat → Prop} (hacc : ∀ i m, acc[i]? = some m → S i → ∀ j, m.testBit j = true → S j) : ∀ (es : List Edge), (∀ e ∈ es, Region.binds .any e = true → S e.on) → ∀ j, (befMask acc es).testBit j = true → S j
  | [], _, j, h => by simp [befMask] at h
  | e :: es, hes, j, h => by
    have ih := befMask_spec hacc es (fun e he => hes e (List.mem_cons_of_mem _ he)) j
    unfold befMask at h
    split at h
    · rename_i hb
      rw [Nat.testBit_or, Nat.testBit_or, Bool.or_eq_true, Bool.or_eq_true] at h
      rcases h with (h | h) | h
      · exact ih h
      · rw [Nat.testBit_two_pow] at h
        simp only [decide_eq_true_eq] at h
        rw [← h]
        exact hes e (List.mem_cons_self) hb
      · have hS := hes e (List.mem_cons_self) hb
        rcases hg : acc[e.on]? with _ | m
        · simp [List.getD, hg] at h
        · simp [List.getD, hg] at h
          exact hacc _ _ hg hS j h
    · exact ih h
theorem befGo_spec {S : Nat → Prop} (hS : Shut l S) : ∀ (os : List Oper) (acc : List Nat), (∀ k, os[k]? = l[acc.length + k]?) → (∀ i m, acc[i]? = some m → S i → ∀ j, m.testBit j = true → S j) →
    ∀ i m, (befGo acc os)[i]? = some m → S i → ∀ j, m.testBit j = true → S j
  | [], acc, _, hacc => hacc
  | o :: os, acc, hl, hacc => by
    unfold befGo
    refine befGo_spec hS os _ (fun k => ?_) ?_
    · have := hl (k + 1)
      simp only [List.getElem?_cons_succ] at this
      rw [this, List.length_append, List.length_singleton]
      congr 1
      omega
    · intro i m hm hi j hj
      rw [List.getElem?_append] at hm
      split at hm
      · exact hacc i m hm hi j hj
      · rename_i hge
        have h0 : l[acc.length]? = some o := by simpa using (hl 0).symm
        rcases hk : i - acc.length with _ | k
        · rw [hk] at hm
          simp at hm
          subst hm
          obtain rfl : i = acc.length := by omega
          exact befMask_spec hacc _ (fun e he hb => hS _ _ h0 hi e (by simpa using he) hb) j hj
        · rw [hk] at hm
          simp at hm
theorem bef_in {S : Nat → Prop} (hS : Shut l S) {i j : Nat} (hi : S i) (h : bef l i j = true) : S j := by
  unfold bef at h
  rcases hm : (befGo [] l)[i]? with _ | m
  · simp [List.getD, hm] at h
  · simp [List.getD, hm] at h
    exact befGo_spec hS l [] (by simp) (by simp) i m hm hi j h
theorem bef_of_ready {S : Nat → Prop} (hS : Shut l S) {i j : Nat} {o : Oper} (ho : l[i]? = some o) (hi : ∀ e ∈ o.after, Region.binds .any e = true → S e.on) (h : bef l i j = true) (hij : j ≠ i) : S j := by
  have := bef_in (l := l) (S := fun k => S k ∨ k = i) (i := i) (j := j) ?_ (.inr rfl) h
  · exact this.resolve_right hij
  · intro k x hk hSk e he hb
    rcases hSk with hSk | rfl
    · exact .inl (hS k x hk hSk e he hb)
    · rw [ho] at hk
      cases hk
      exact .inl (hi e he hb)

theorem eval_congr {a a' : Act} {x : Operand} (h : ∀ t, x = .tmp t → a.tmps[t]? = a'.tmps[t]?) : a.eval x = a'.eval x := by
  cases x with
  | tmp t =>
    have := h t rfl
    simp only [Act.eval, Array.getD_eq_getD_getElem?, this]
  | _ => rfl
theorem yielded_congr {ops : Array Oper} {t t' : Array Value} {j : Nat} (h : ∀ d, ((ops[j]?).bind (·.dst)) = some d → t[d]? = t'[d]?) : yielded ops t j = yielded ops t' j := by
  unfold yielded
  cases hd : (ops[j]?).bind (·.dst) with
  | none => rfl
  | some d => simp only [Option.bind_some]; rw [h d hd]
theorem looks_op {o : Oper} {ops : Array Oper} {t : Tmp} (h : Operand.tmp t ∈ o.op.operands) : t ∈ o.looksAt ops :=
  List.mem_append_left _ (List.mem_filterMap.2 ⟨.tmp t, by simpa using h, rfl⟩)
theorem execOp_same {o : Oper} {a a' : Act} (hs : ∀ cs b, o.op ≠ .select cs b) (h : ∀ t ∈ o.looksAt l.toArray, a.tmps[t]? = a'.tmps[t]?) : execOp a.eval o = execOp a'.eval o :=
  execOp_congr o hs fun x hx => eval_congr fun t ht => h t (looks_op (by rw [← ht]; exact hx))
theorem wanted_same {o : Oper} {a a' : Act} (h : ∀ t ∈ o.looksAt l.toArray, a.tmps[t]? = a'.tmps[t]?) : Region.wanted o (yielded l.toArray a.tmps) = Region.wanted o (yielded l.toArray a'.tmps) := by
  unfold Region.wanted
  cases hg : o.guard with
  | none => rfl
  | some g =>
    obtain ⟨j, b⟩ := g
    simp only
    rw [yielded_congr fun d hd => h d ?_]
    refine List.mem_append_right _ ?_
    rw [hg]
    simp only
    rw [hd]
    simp

/-- The frames of two sets agree where an operation looks. -/
theorem Frm.agree {a0 a a' : Act} {S S' : Nat → Prop} {σ : Nat → Value} (h : Frm l a0 S σ a) (h' : Frm l a0 S' σ a') {ts : List Tmp}
    (hS : ∀ t ∈ ts, ∀ j x, l[j]? = some x → x.dst = some t → (S j ↔ S' j)) : ∀ t ∈ ts, a.tmps[t]? = a'.tmps[t]? := by
  intro t ht
  by_cases hw : ∃ j x, l[j]? = some x ∧ x.dst = some t ∧ S j
  · obtain ⟨j, x, hx, hd, hSj⟩ := hw
    by_cases hlt : t < a0.tmps.size
    · rw [h.2.2.2 j x t hx hSj hd hlt, h'.2.2.2 j x t hx ((hS t ht j x hx hd).1 hSj) hd hlt]
    · rw [Array.getElem?_eq_none (by rw [h.2.1]; exact Nat.le_of_not_lt hlt), Array.getElem?_eq_none (by rw [h'.2.1]; exact Nat.le_of_not_lt hlt)]
  · rw [h.2.2.1 t (fun i o ho hi hd => hw ⟨i, o, ho, hd, hi⟩), h'.2.2.1 t (fun i o ho hi hd => hw ⟨i, o, ho, hd, (hS t ht i o ho hd).2 hi⟩)]
theorem Frm.ext_ {a0 a a' : Act} {S : Nat → Prop} {σ : Nat → Value} (h : Frm l a0 S σ a) (h' : Frm l a0 S σ a') : a = a' := by
  have ht : a.tmps = a'.tmps := by
    apply Array.ext_getElem?
    intro t
    exact h.agree h' (ts := [t]) (fun _ _ _ _ _ _ => Iff.rfl) t (by simp)
  cases a; cases a'
  have := h.1.trans h'.1.symm
  simp_all
theorem Frm.put {a0 a : Act} {S S' : Nat → Prop} {σ σ' : Nat → Value} (hst : stat l = true) (h : Frm l a0 S σ a) {i : Nat} {o : Oper} (ho : l[i]? = some o) (v : Value)
    (hσ : ∀ j, S j → j ≠ i → σ' j = σ j) (hv : σ' i = v) (hS : ∀ j, S' j ↔ S j ∨ j = i) : Frm l a0 S' σ' (a.put o.dst v) := by
  have hdf : (a.put o.dst v).defers = a.defers := by cases o.dst <;> rfl
  have hsz : (a.put o.dst v).tmps.size = a.tmps.size := by cases o.dst <;> simp [Act.put]
  refine ⟨hdf.trans h.1, hsz.trans h.2.1, fun t hn => ?_, fun j x t hx hj hd hlt => ?_⟩
  · have hot : o.dst ≠ some t := hn i o ho ((hS i).2 (.inr rfl))
    have e : (a.put o.dst v).tmps[t]? = a.tmps[t]? := by
      cases hd : o.dst with
      | none => rfl
      | some d =>
        have : d ≠ t := fun e => hot (by rw [hd, e])
        simp [Act.put, Array.getElem?_setIfInBounds_ne this]
    rw [e]
    exact h.2.2.1 t fun j x hx hj => hn j x hx ((hS j).2 (.inl hj))
  · by_cases hji : j = i
    · subst hji
      rw [ho] at hx
      cases hx
      rw [hd, hv]
      have h2 := h.2.1
      simp only [Act.put]
      rw [Array.getElem?_setIfInBounds_self_of_lt (by omega)]
    · have hSj : S j := ((hS j).1 hj).resolve_right hji
      have hot : o.dst ≠ some t := fun e => hji (stat_one hst hx ho hd e)
      have e : (a.put o.dst v).tmps[t]? = a.tmps[t]? := by
        cases hd' : o.dst with
        | none => rfl
        | some d =>
          have : d ≠ t := fun e => hot (by rw [hd', e])
          simp [Act.put, Array.getElem?_setIfInBounds_ne this]
      rw [e, hσ j hSj hji]
      exact h.2.2.2 j x t hx hSj hd hlt
theorem Frm.start (a0 : Act) {S : Nat → Prop} (σ : Nat → Value) (hS : ∀ i, ¬ S i) : Frm l a0 S σ a0 := ⟨rfl, rfl, fun _ _ => rfl, fun i _ _ _ h => absurd h (hS i)⟩

/-- What the walk in the text's order has shown of each operation among the first n0, and of the end. -/
theorem lex_at (hst : stat l = true) {a0 : Act} {σ : Nat → Value} (n0 : Nat) (hn0 : n0 ≤ l.length) (allq : List Post) (hlq : allq.length = n0) (hfit : ∀ i q, allq[i]? = some q → fits q (σ i)) :
    ∀ (qs : List Post) (os : List Oper) (i : Nat) (a : Act) (Φ : (Nat → Bool) → World → Prop), i + os.length = n0 → (∀ k, k < os.length → os[k]? = l[i + k]?) → (∀ k, qs[k]? = allq[i + k]?) → lex P R w0 l Q qs os i a Φ → Frm l a0 (· < i) σ a →
      (∀ d w, (∀ j q, j < i → allq[j]? = some q → d j = true → okPost q (σ j) w) → Φ d w) →
      (∀ j o, i ≤ j → j < n0 → l[j]? = some o → ∃ a q, allq[j]? = some q ∧ Frm l a0 (· < j) σ a ∧
        (if Region.wanted o (yielded l.toArray a.tmps) then Step P R w0 o a (fun w => ∀ k q, k < j → allq[k]? = some q → bef l j k = true → okPost q (σ k) w) q else q = .inl undef)) ∧
      (∃ a, Frm l a0 (· < n0) σ a ∧ ∀ w, R w0 w → (∀ j q, allq[j]? = some q → j < n0 → okPost q (σ j) w) → Q a w)
  | [], [], i, a, Φ, hin, hl, hq, h, hf, hΦ => by
    have hi : i = n0 := by simpa using hin
    subst hi
    refine ⟨fun j o hj hj2 ho => by omega, a, hf, fun w hw hall => h w hw (hΦ _ _ fun j q hj hq2 _ => hall j q hq2 hj)⟩
  | [], _ :: _, _, _, _, _, _, _, h, _, _ => h.elim
  | _ :: _, [], _, _, _, _, _, _, h, _, _ => h.elim
  | q :: qs, o :: os, i, a, Φ, hin, hl, hq, h, hf, hΦ => by
    simp only [List.length_cons] at hin hl
    have ho : l[i]? = some o := by simpa using (hl 0 (by omega)).symm
    have hq0 : allq[i]? = some q := by simpa using (hq 0).symm
    have hl' : ∀ k, k < os.length → os[k]? = l[i + 1 + k]? := fun k hk => by have := hl (k + 1) (by omega); simp only [List.getElem?_cons_succ] at this; rw [this]; congr 1; omega
    have hq' : ∀ k, qs[k]? = allq[i + 1 + k]? := fun k => by have := hq (k + 1); simp only [List.getElem?_cons_succ] at this; rw [this]; congr 1; omega
    have hput : ∀ v, σ i = v → Frm l a0 (· < i + 1) σ (a.put o.dst v) := fun v hv => hf.put hst ho v (fun _ _ _ => rfl) hv (fun j => by omega)
    obtain ⟨hstep, hrest⟩ := h
    have hfq := hfit i q hq0
    have key : (∀ j o, i + 1 ≤ j → j < n0 → l[j]? = some o → ∃ a q, allq[j]? = some q ∧ Frm l a0 (· < j) σ a ∧
        (if Region.wanted o (yielded l.toArray a.tmps) then Step P R w0 o a (fun w => ∀ k q, k < j → allq[k]? = some q → bef l j k = true → okPost q (σ k) w) q else q = .inl undef)) ∧
      (∃ a, Frm l a0 (· < n0) σ a ∧ ∀ w, R w0 w → (∀ j q, allq[j]? = some q → j < n0 → okPost q (σ j) w) → Q a w) := by
      cases q with
      | inl u => exact lex_at hst n0 hn0 allq hlq hfit qs os (i + 1) _ Φ (by omega) hl' hq' hrest (hput u hfq) fun d w hall => hΦ d w fun j q hj hq2 hd => hall j q (by omega) hq2 hd
      | inr p =>
        refine lex_at hst n0 hn0 allq hlq hfit qs os (i + 1) _ _ (by omega) hl' hq' (hrest.2 (σ i)) (hput _ rfl) fun d w hall => ⟨fun hd => ?_, hΦ d w fun j q hj hq2 hd => hall j q (by omega) hq2 hd⟩
        exact hall i _ (by omega) hq0 hd
    refine ⟨fun j x hj hj2 hx => ?_, key.2⟩
    rcases Nat.lt_or_ge i j with hlt | hge
    · exact key.1 j x hlt hj2 hx
    · obtain rfl : j = i := by omega
      rw [ho] at hx
      cases hx
      refine ⟨a, q, hq0, hf, ?_⟩
      by_cases hw : Region.wanted o (yielded l.toArray a.tmps) = true
      · rw [if_pos hw] at hstep ⊢
        intro w hR hG
        exact hstep w hR (hΦ _ _ fun k q hk hq2 hb => hG k q hk hq2 hb)
      · rw [if_neg hw] at hstep ⊢
        exact hstep

theorem wp_of_yields {o : Oper} {a : Act} {K : Act → World → Prop} {Q : Exit → Act → World → Prop} {w : World} {N : Value → World → Prop} (hN : ∀ v w', N v w' → K (a.put o.dst v) w') (h : yieldsW P N ((execOp a.eval o).run P w)) : o.wp P a w K Q := by
  unfold Oper.wp
  generalize (execOp a.eval o).run P w = r at *
  cases r with
  | ok n w' =>
    cases n <;> simp only [Oper.upon, yieldsW] at h ⊢ <;>
      first
        | exact hN _ _ h
        | exact Calls.mono h (fun e w'' he => by obtain ⟨v, rfl, hv⟩ := he; exact hN _ _ hv)
        | exact h.elim
  | halt x w' => exact h.elim

theorem lex_len : ∀ (qs : List Post) (os : List Oper) (i : Nat) (a : Act) (Φ : (Nat → Bool) → World → Prop), lex P R w0 l Q qs os i a Φ → qs.length = os.length
  | [], [], _, _, _, _ => rfl
  | [], _ :: _, _, _, _, h => h.elim
  | _ :: _, [], _, _, _, h => h.elim
  | q :: qs, o :: os, i, a, Φ, h => by
    have := h.2
    simp only [List.length_cons]
    cases q with
    | inl u => rw [lex_len qs os _ _ _ this]
    | inr p => rw [lex_len qs os _ _ _ (this.2 undef)]
theorem lex_stab : ∀ (qs : List Post) (os : List Oper) (i : Nat) (a : Act) (Φ : (Nat → Bool) → World → Prop), lex P R w0 l Q qs os i a Φ → ∀ p, .inr p ∈ qs → ∀ v w w', p v w → R w w' → p v w'
  | [], _, _, _, _, _, p, hp => by simp at hp
  | _ :: _, [], _, _, _, h, _, _ => h.elim
  | q :: qs, o :: os, i, a, Φ, h, p, hp => by
    have := h.2
    rcases List.mem_cons.1 hp with h1 | h1
    · subst h1
      exact this.1
    · cases q with
      | inl u => exact lex_stab qs os _ _ _ this p h1
      | inr p' => exact lex_stab qs os _ _ _ (this.2 undef) p h1

theorem count_lt {f g : Nat → Bool} (hgf : ∀ x, g x = true → f x = true) {i : Nat} (hf : f i = true) (hg : g i = false) : ∀ L : List Nat, i ∈ L → L.countP g < L.countP f
  | [], h => by simp at h
  | x :: L, h => by
    have hle : L.countP g ≤ L.countP f := List.countP_mono_left fun y _ hy => hgf y hy
    rw [List.countP_cons, List.countP_cons]
    by_cases hx : x = i
    · subst hx
      rw [if_pos hf, if_neg (by simp [hg])]
      omega
    · have hm : i ∈ L := by simpa [Ne.symm hx] using h
      have ih := count_lt hgf hf hg L hm
      by_cases hgx : g x = true
      · rw [if_pos hgx, if_pos (hgf x hgx)]; omega
      · rw [if_neg hgx]; split <;> omega

/-- One operation, as it comes up in whatever order. -/
theorem wpOp_of_step {Q' : Exit → Act → World → Prop} {i : Nat} {o : Oper} {a b : Act} {w : World} {K : Act → World → Prop} {G : World → Prop} {q : Post} (ho : l[i]? = some o) (hs : ∀ cs b, o.op ≠ .select cs b)
    (hag : ∀ t ∈ o.looksAt l.toArray, a.tmps[t]? = b.tmps[t]?)
    (h : if Region.wanted o (yielded l.toArray a.tmps) then Step P R w0 o a G q else q = .inl undef) (hR : R w0 w) (hG : G w) (hrefl : R w w)
    (hK : ∀ v w', R w w' → okPost q v w' → K (b.put o.dst v) w') : wpOp P l.toArray Q' i K b w := by
  unfold wpOp
  rw [show l.toArray[i]? = some o from by simpa using ho]
  simp only
  rw [← wanted_same hag]
  split
  · rename_i hw
    rw [if_pos hw] at h
    have h1 := h w hR hG
    rw [execOp_same hs hag] at h1
    exact .inl (wp_of_yields (fun v w' hv => hK v w' hv.1 hv.2) h1)
  · rename_i hw
    rw [if_neg (by simpa using hw)] at h
    subst h
    exact hK _ _ hrefl rfl

def unlisted (l : List Oper) (listed : Array Bool) : Nat := (List.range l.length).countP fun i => !listed.getD i true

theorem getD_tf {listed : Array Bool} {i : Nat} (h : i < listed.size) : listed.getD i true = listed.getD i false := by
  simp [Array.getD, h]

theorem all_listed (hst : stat l = true) {listed : Array Bool} (hsz : listed.size = l.length) (hr : Region.ready .any l.toArray listed = []) : ∀ n i, i < n → i < l.length → listed.getD i false = true
  | 0, i, h, _ => by omega
  | n + 1, i, h, hi => by
    have ho : l[i]? = some l[i] := List.getElem?_eq_getElem hi
    by_cases hd : listed.getD i false = true
    · exact hd
    · exfalso
      have hm : i ∈ Region.ready .any l.toArray listed := mem_ready.2 ⟨by rw [getD_tf (by omega)]; exact Bool.not_eq_true _ ▸ hd, l[i], by simp, fun e he hb => ?_⟩
      · rw [hr] at hm
        cases hm
      · have hlt := stat_edge hst ho he hb
        exact all_listed hst hsz hr n e.on (by omega) (by omega)

theorem ready_nil {listed : Array Bool} (hsz : listed.size = l.length) (hall : ∀ i, i < l.length → listed.getD i false = true) : Region.ready .any l.toArray listed = [] := by
  rw [List.eq_nil_iff_forall_not_mem]
  intro i hi
  obtain ⟨h1, o, h2, _⟩ := mem_ready.1 hi
  have hlt : i < l.length := by
    have := (Array.getElem?_eq_some_iff.1 h2).1
    simpa using this
  rw [getD_tf (by omega), hall i hlt] at h1
  cases h1
theorem getD_set {listed : Array Bool} {i : Nat} (hi : i < listed.size) (j : Nat) : (listed.setIfInBounds i true).getD j false = true ↔ listed.getD j false = true ∨ j = i := by
  by_cases hj : j = i
  · subst hj
    simp [Array.getD, hi]
  · have : i ≠ j := fun e => hj e.symm
    simp [Array.getD_eq_getD_getElem?, Array.getElem?_setIfInBounds_ne this, hj]

/-- The operations from the i-th on, one behind the other. -/
def tailW (P : Program) (l : List Oper) (Q' : Exit → Act → World → Prop) : Nat → Nat → Act → World → Prop
  | 0, _ => fun a w => Q' .normal a w
  | k + 1, i => fun a w => wpOp P l.toArray Q' i (tailW P l Q' k (i + 1)) a w

theorem unlisted_set {listed : Array Bool} {i : Nat} (hsz : listed.size = l.length) (hlt : i < l.length) (h1 : listed.getD i true = false) : unlisted l (listed.setIfInBounds i true) < unlisted l listed := by
  refine count_lt (i := i) (fun x hx => ?_) ?_ ?_ _ (by simpa using hlt)
  · by_cases hxi : x = i
    · subst hxi
      rw [h1]; rfl
    · have : i ≠ x := fun e => hxi e.symm
      rw [Array.getD_eq_getD_getElem?, Array.getElem?_setIfInBounds_ne this, ← Array.getD_eq_getD_getElem?] at hx
      exact hx
  · rw [h1]; rfl
  · simp [Array.getD, hsz, hlt]

theorem wpAny_tail {Q' : Exit → Act → World → Prop} (hst : stat l = true) : ∀ (fuel n : Nat) (listed : Array Bool) (a : Act) (w : World), n ≤ l.length → (∀ i, n ≤ i → i < l.length → ∀ j, j < i → bef l i j = true) →
    listed.size = l.length → unlisted l listed ≤ fuel → Shut l (fun i => listed.getD i false = true) → (∀ j, listed.getD j false = true ↔ j < n) → tailW P l Q' (l.length - n) n a w → wpAny P .any l.toArray Q' fuel listed a w := by
  intro fuel
  induction fuel with
  | zero =>
    intro n listed a w hn hch hsz hun hsh hls ht
    have hz : unlisted l listed = 0 := by omega
    have hall : ∀ i, i < l.length → listed.getD i false = true := by
      intro i hi
      unfold unlisted at hz
      rw [List.countP_eq_zero] at hz
      have := hz i (by simpa using hi)
      rw [← getD_tf (by omega)]
      simpa using this
    obtain rfl : n = l.length := by
      rcases Nat.lt_or_ge n l.length with h | h
      · exact absurd ((hls n).1 (hall n h)) (Nat.lt_irrefl _)
      · omega
    rw [Nat.sub_self] at ht
    exact ⟨ready_nil hsz hall, ht⟩
  | succ fuel ih =>
    intro n listed a w hn hch hsz hun hsh hls ht
    refine ⟨fun hr => ?_, fun i hi => ?_⟩
    · have hall : ∀ i, i < l.length → listed.getD i false = true := fun i hi => all_listed hst hsz hr (i + 1) i (by omega) hi
      obtain rfl : n = l.length := by
        rcases Nat.lt_or_ge n l.length with h | h
        · exact absurd ((hls n).1 (hall n h)) (Nat.lt_irrefl _)
        · omega
      rw [Nat.sub_self] at ht
      exact ht
    · obtain ⟨h1, o, h2, hpre⟩ := mem_ready.1 hi
      have ho : l[i]? = some o := by simpa using h2
      have hlt : i < l.length := (List.getElem?_eq_some_iff.1 ho).1
      have hni : ¬ listed.getD i false = true := by rw [← getD_tf (by omega), h1]; simp
      have hbef : ∀ j, bef l i j = true → j ≠ i → listed.getD j false = true := fun j hj hne => bef_of_ready hsh ho hpre hj hne
      have hset := getD_set (listed := listed) (i := i) (by omega)
      have hge : n ≤ i := by
        rcases Nat.lt_or_ge i n with h | h
        · exact absurd ((hls i).2 h) hni
        · exact h
      obtain rfl : i = n := by
        rcases Nat.lt_or_ge n i with h | h
        · exact absurd ((hls n).1 (hbef n (hch i hge hlt n h) (by omega))) (Nat.lt_irrefl _)
        · omega
      obtain ⟨k, hk⟩ : ∃ k, l.length - i = k + 1 := ⟨l.length - i - 1, by omega⟩
      rw [hk] at ht
      refine wpOp_mono (fun a' w' h => ?_) ht
      refine ih (i + 1) _ a' w' hlt (fun i' h' h2' => hch i' (by omega) h2') (by simpa using hsz) (by have := unlisted_set hsz hlt h1; omega) ?_ ?_ ?_
      · intro j x hx hj e he hb'
        refine (hset _).2 (.inl ?_)
        rcases (hset j).1 hj with hj | rfl
        · exact hsh j x hx hj e he hb'
        · rw [ho] at hx
          cases hx
          exact hpre e he hb'
      · intro j
        rw [hset j, hls j]
        omega
      · rw [show l.length - (i + 1) = k by omega]
        exact h

/-- How the region ends: all its operations have been walked; or all but some last ones, each of which waits for all ahead of it. -/
def Ends (P : Program) (l : List Oper) (Q : Act → World → Prop) (Q' : Exit → Act → World → Prop) (n0 : Nat) : Prop :=
  (n0 = l.length ∧ ∀ a w, Q a w → Q' .normal a w) ∨
  (n0 < l.length ∧ (∀ i, n0 ≤ i → i < l.length → ∀ j, j < i → bef l i j = true) ∧ ∀ a w, Q a w → tailW P l Q' (l.length - n0) n0 a w)

theorem wpAny_lex {Q' : Exit → Act → World → Prop} (hst : stat l = true) (hrefl : ∀ w, R w w) (htrans : ∀ a b c, R a b → R b c → R a c) (n0 : Nat) (hends : Ends P l Q Q' n0) (allq : List Post) (hlq : allq.length = n0)
    (hstab : ∀ p, .inr p ∈ allq → ∀ v w w', p v w → R w w' → p v w') {a0 : Act} {os0 : List Oper} (hos : os0.length = n0) (hosl : ∀ k, k < os0.length → os0[k]? = l[k]?) (hlex : lex P R w0 l Q allq os0 0 a0 (fun _ _ => True)) :
    ∀ (fuel : Nat) (listed : Array Bool) (a : Act) (w : World) (σ : Nat → Value), listed.size = l.length → unlisted l listed ≤ fuel → R w0 w → Shut l (fun i => listed.getD i false = true) → (∀ i, n0 ≤ i → ¬ listed.getD i false = true) →
      (∀ i q, allq[i]? = some q → fits q (σ i)) → (∀ i q, allq[i]? = some q → listed.getD i false = true → okPost q (σ i) w) → Frm l a0 (fun i => listed.getD i false = true) σ a →
      wpAny P .any l.toArray Q' fuel listed a w := by
  have hn0 : n0 ≤ l.length := by rcases hends with h | h <;> omega
  intro fuel
  induction fuel with
  | zero =>
    intro listed a w σ hsz hun hR hsh hend0 hfit hok hf
    have hz : unlisted l listed = 0 := by omega
    have hall : ∀ i, i < l.length → listed.getD i false = true := by
      intro i hi
      unfold unlisted at hz
      rw [List.countP_eq_zero] at hz
      have := hz i (by simpa using hi)
      rw [← getD_tf (by omega)]
      simpa using this
    rcases hends with ⟨hn, hQ⟩ | ⟨hn, _, _⟩
    · obtain ⟨_, b, hb, hend⟩ := lex_at hst n0 hn0 allq hlq hfit allq os0 0 a0 _ (by omega) (by simpa using hosl) (by simp) hlex (Frm.start a0 σ (by simp)) (fun _ _ _ => trivial)
      have hab : b = a := by
        refine Frm.ext_ (S := fun i => listed.getD i false = true) (σ := σ) ⟨hb.1, hb.2.1, fun t hx => hb.2.2.1 t fun i o ho hi => hx i o ho (hall i (by omega)), fun i o t ho hi hd hlt => hb.2.2.2 i o t ho (by have := (List.getElem?_eq_some_iff.1 ho).1; show i < n0; omega) hd hlt⟩ hf
      subst hab
      exact ⟨ready_nil hsz hall, hQ _ _ (hend w hR fun j q hq hj => hok j q hq (hall j (by omega)))⟩
    · exact absurd (hall n0 (by omega)) (hend0 n0 (Nat.le_refl _))
  | succ fuel ih =>
    intro listed a w σ hsz hun hR hsh hend0 hfit hok hf
    obtain ⟨hsteps, b, hb, hend⟩ := lex_at hst n0 hn0 allq hlq hfit allq os0 0 a0 _ (by omega) (by simpa using hosl) (by simp) hlex (Frm.start a0 σ (by simp)) (fun _ _ _ => trivial)
    have hfin : (∀ i, i < n0 → listed.getD i false = true) → Q a w := by
      intro hall
      have hab : b = a := by
        refine Frm.ext_ (S := fun i => listed.getD i false = true) (σ := σ) ⟨hb.1, hb.2.1, fun t hx => hb.2.2.1 t fun i o ho hi => hx i o ho (hall i hi), fun i o t ho hi hd hlt => hb.2.2.2 i o t ho ?_ hd hlt⟩ hf
        show i < n0
        rcases Nat.lt_or_ge i n0 with h | h
        · exact h
        · exact absurd hi (hend0 i h)
      subst hab
      exact hend w hR fun j q hq hj => hok j q hq (hall j hj)
    refine ⟨fun hr => ?_, fun i hi => ?_⟩
    · have hall : ∀ i, i < l.length → listed.getD i false = true := fun i hi => all_listed hst hsz hr (i + 1) i (by omega) hi
      rcases hends with ⟨hn, hQ⟩ | ⟨hn, _, _⟩
      · exact hQ _ _ (hfin fun i hi => hall i (by omega))
      · exact absurd (hall n0 (by omega)) (hend0 n0 (Nat.le_refl _))
    · obtain ⟨h1, o, h2, hpre⟩ := mem_ready.1 hi
      have ho : l[i]? = some o := by simpa using h2
      have hlt : i < l.length := (List.getElem?_eq_some_iff.1 ho).1
      have hni : ¬ listed.getD i false = true := by rw [← getD_tf (by omega), h1]; simp
      have hbef : ∀ j, bef l i j = true → j ≠ i → listed.getD j false = true := fun j hj hne => bef_of_ready hsh ho hpre hj hne
      have hset := getD_set (listed := listed) (i := i) (by omega)
      by_cases hin : i < n0
      · obtain ⟨c, q, hq, hc, hstep⟩ := hsteps i o (Nat.zero_le _) hin ho
        have hag : ∀ t ∈ o.looksAt l.toArray, c.tmps[t]? = a.tmps[t]? := by
          refine hc.agree hf fun t ht j x hx hd => ?_
          rcases stat_look hst ho hx ht hd with rfl | ⟨hj, hbj⟩ | ⟨hj, hbj⟩
          · exact ⟨fun h => absurd h (Nat.lt_irrefl _), fun h => absurd h hni⟩
          · exact ⟨fun _ => hbef j hbj (by omega), fun _ => hj⟩
          · exact ⟨fun h => absurd h hj, fun h => absurd (bef_in hsh h hbj) hni⟩
        refine wpOp_of_step ho (stat_sel hst ho) hag hstep hR (fun k q' hk hq' hb' => hok k q' hq' (hbef k hb' (by omega))) (hrefl w) fun v w' hRw hokv => ?_
        refine ih _ _ w' (fun j => if j = i then v else σ j) (by simpa using hsz) ?_ (htrans _ _ _ hR hRw) ?_ ?_ ?_ ?_ ?_
        · have hcl : unlisted l (listed.setIfInBounds i true) < unlisted l listed := by
            refine count_lt (i := i) (fun x hx => ?_) ?_ ?_ _ (by simpa using hlt)
            · by_cases hxi : x = i
              · subst hxi
                rw [h1]; rfl
              · have : i ≠ x := fun e => hxi e.symm
                rw [Array.getD_eq_getD_getElem?, Array.getElem?_setIfInBounds_ne this, ← Array.getD_eq_getD_getElem?] at hx
                exact hx
            · rw [h1]; rfl
            · simp [Array.getD, hsz, hlt]
          omega
        · intro j x hx hj e he hb'
          refine (hset _).2 (.inl ?_)
          rcases (hset j).1 hj with hj | rfl
          · exact hsh j x hx hj e he hb'
          · rw [ho] at hx
            cases hx
            exact hpre e he hb'
        · intro j hj hjs
          rcases (hset j).1 hjs with hjs | rfl
          · exact hend0 j hj hjs
          · omega
        · intro j q' hq'
          show fits q' (if j = i then v else σ j)
          split
          · rename_i hj
            subst hj
            rw [hq] at hq'
            cases hq'
            cases q with
            | inl u => exact hokv
            | inr p => trivial
          · exact hfit j q' hq'
        · intro j q' hq' hj
          show okPost q' (if j = i then v else σ j) w'
          split
          · rename_i hji
            subst hji
            rw [hq] at hq'
            cases hq'
            exact hokv
          · rename_i hji
            have hold := hok j q' hq' (((hset j).1 hj).resolve_right hji)
            cases q' with
            | inl u => exact hold
            | inr p => exact hstab p (List.mem_of_getElem? hq') _ _ _ hold hRw
        · exact hf.put hst ho v (fun j _ hne => by simp [hne]) (by simp) hset
      · rcases hends with ⟨hn, _⟩ | ⟨hn, hall, hT⟩
        · omega
        · obtain rfl : i = n0 := by
            rcases Nat.lt_or_ge n0 i with h | h
            · exact absurd (hbef n0 (hall i (by omega) hlt n0 h) (by omega)) (hend0 n0 (Nat.le_refl _))
            · omega
          have hal : ∀ j, j < i → listed.getD j false = true := fun j hj => hbef j (hall i (Nat.le_refl _) hlt j hj) (by omega)
          obtain ⟨k, hk⟩ : ∃ k, l.length - i = k + 1 := ⟨l.length - i - 1, by omega⟩
          have hT' := hT _ _ (hfin hal)
          rw [hk] at hT'
          refine wpOp_mono (fun a' w' h => ?_) hT'
          refine wpAny_tail hst fuel (i + 1) _ a' w' hlt (fun i' h' h2' => hall i' (by omega) h2') (by simpa using hsz) (by have := unlisted_set hsz hlt h1; omega) ?_ ?_ ?_
          · intro j x hx hj e he hb'
            refine (hset _).2 (.inl ?_)
            rcases (hset j).1 hj with hj | rfl
            · exact hsh j x hx hj e he hb'
            · rw [ho] at hx
              cases hx
              exact hpre e he hb'
          · intro j
            rw [hset j]
            refine ⟨fun hh => ?_, fun hh => ?_⟩
            · rcases hh with hh | rfl
              · rcases Nat.lt_or_ge j i with h3 | h3
                · omega
                · exact absurd hh (hend0 j h3)
              · omega
            · by_cases hji : j = i
              · exact .inr hji
              · exact .inl (hal j (by omega))
          · rw [show l.length - (i + 1) = k by omega]
            exact h

theorem wp_region_lex_n {id : Nat} {Q' : Exit → Act → World → Prop} {a : Act} (hm : P.follows .mixedOrders = true) (hst : stat l = true) (hrefl : ∀ w, R w w) (htrans : ∀ a b c, R a b → R b c → R a c) (hdrew : R w0 w0.drew)
    (qs : List Post) (n0 : Nat) (hends : Ends P l Q Q' n0) {os0 : List Oper} (hos : os0.length = n0) (hosl : ∀ k, k < os0.length → os0[k]? = l[k]?) (h : lex P R w0 l Q qs os0 0 a (fun _ _ => True)) :
    (Code.region id l.toArray true).wp P Q' a w0 := by
  refine wp_region_any hm ?_
  refine wpAny_lex hst hrefl htrans n0 hends qs ((lex_len _ _ _ _ _ h).trans hos) (lex_stab _ _ _ _ _ h) hos hosl h _ _ _ _ (fun i => match qs[i]? with | some (.inl u) => u | _ => undef) (by simp) ?_ hdrew ?_ ?_ ?_ ?_ (Frm.start _ _ ?_)
  · refine Nat.le_trans List.countP_le_length ?_
    simp
  · intro i o ho hi
    simp [Array.getD] at hi
  · intro i _ hi
    simp [Array.getD] at hi
  · intro i q hq
    simp only [hq]
    cases q <;> simp [fits]
  · intro i q hq hi
    simp [Array.getD] at hi
  · intro i hi
    simp [Array.getD] at hi

/-- **THE LAW.** -/
theorem wp_region_lex {id : Nat} {Q' : Exit → Act → World → Prop} {a : Act} (hm : P.follows .mixedOrders = true) (hst : stat l = true) (hrefl : ∀ w, R w w) (htrans : ∀ a b c, R a b → R b c → R a c) (hdrew : R w0 w0.drew)
    (qs : List Post) (h : lex P R w0 l (fun a w => Q' .normal a w) qs l 0 a (fun _ _ => True)) :
    (Code.region id l.toArray true).wp P Q' a w0 :=
  wp_region_lex_n hm hst hrefl htrans hdrew qs l.length (.inl ⟨rfl, fun _ _ h => h⟩) rfl (fun _ _ => rfl) h

theorem wpList_W {Q' : Exit → Act → World → Prop} : ∀ (os : List Oper) (n : Nat) (a : Act) (w : World), l.drop n = os → wpList P l.toArray Q' os a w → tailW P l Q' (l.length - n) n a w
  | [], n, a, w, hd, h => by
    have : l.length ≤ n := by simpa using hd
    rw [Nat.sub_eq_zero_of_le this]
    exact h
  | o :: os, n, a, w, hd, h => by
    have hlt : n < l.length := by
      rcases Nat.lt_or_ge n l.length with h' | h'
      · exact h'
      · rw [List.drop_eq_nil_of_le h'] at hd; cases hd
    rw [List.drop_eq_getElem_cons hlt] at hd
    injection hd with h1 h2
    obtain ⟨k, hk⟩ : ∃ k, l.length - n = k + 1 := ⟨l.length - n - 1, by omega⟩
    rw [hk]
    show wpOp P l.toArray Q' n (tailW P l Q' k (n + 1)) a w
    refine wpOp_mono (K := wpList P l.toArray Q' os) (fun a' w' h' => ?_) ?_
    · have := wpList_W os (n + 1) a' w' h2 h'
      rw [show l.length - (n + 1) = k by omega] at this
      exact this
    · have ho : l[n]? = some o := by rw [List.getElem?_eq_getElem hlt, h1]
      unfold wpOp
      rw [show l.toArray[n]? = some o from by simpa using ho]
      exact h
/-- **THE LAW, WHERE SOME LAST OPERATIONS WAIT FOR ALL AHEAD OF THEM** (a store behind calls and loads; a writing call and what follows): these are walked as ever. 'n': the place of the first of them. -/
theorem wp_region_lex_tails {id : Nat} {Q' : Exit → Act → World → Prop} {a : Act} (n : Nat) (hlen : n < l.length) (hall : ((List.range l.length).all fun i => decide (i < n) || (List.range i).all (fun j => bef l i j)) = true) (hm : P.follows .mixedOrders = true) (hst : stat l = true) (hrefl : ∀ w, R w w) (htrans : ∀ a b c, R a b → R b c → R a c) (hdrew : R w0 w0.drew)
    (qs : List Post) (h : lex P R w0 l (fun a w => wpList P l.toArray Q' (l.drop n) a w) qs (l.take n) 0 a (fun _ _ => True)) :
    (Code.region id l.toArray true).wp P Q' a w0 := by
  refine wp_region_lex_n hm hst hrefl htrans hdrew qs n (.inr ⟨hlen, fun i hi hl j hj => ?_, fun a w h => wpList_W _ n a w rfl h⟩) (by simp; omega) (fun k hk => ?_) h
  · rw [List.all_eq_true] at hall
    have := hall i (by simpa using hl)
    rw [Bool.or_eq_true] at this
    rcases this with h | h
    · have := of_decide_eq_true h; omega
    · rw [List.all_eq_true] at h
      exact h j (by simpa using hj)
  · rw [List.getElem?_take, if_pos (by simp at hk; omega)]
/-- **THE LAW, WHERE THE LAST OPERATION WAITS FOR ALL OTHERS** (a store behind calls and loads): that one is walked as ever. 'n' is its place. -/
theorem wp_region_lex_tail {id : Nat} {Q' : Exit → Act → World → Prop} {a : Act} (n : Nat) {o : Oper} (ho : l[n]? = some o) (hg : o.guard = none) (hlen : n + 1 = l.length) (hall : (List.range n).all (fun j => bef l n j) = true) (hm : P.follows .mixedOrders = true) (hst : stat l = true) (hrefl : ∀ w, R w w) (htrans : ∀ a b c, R a b → R b c → R a c) (hdrew : R w0 w0.drew)
    (qs : List Post) (h : lex P R w0 l (fun a w => o.wp P a w (fun a w => Q' .normal a w) Q') qs (l.take n) 0 a (fun _ _ => True)) :
    (Code.region id l.toArray true).wp P Q' a w0 := by
  have hd : l.drop n = [o] := by
    rw [List.drop_eq_getElem_cons (by omega), List.drop_eq_nil_of_le (by omega)]
    rw [List.getElem?_eq_getElem (by omega)] at ho
    rw [Option.some.inj ho]
  refine wp_region_lex_n hm hst hrefl htrans hdrew qs n (.inr ⟨by omega, fun i hi hl j hj => ?_, fun a w h => wpList_W [o] n a w hd (by unfold wpList; rw [if_pos (by simp [Region.wanted, hg])]; exact .inl h)⟩) (by simp; omega) (fun k hk => ?_) h
  · rw [List.all_eq_true] at hall
    obtain rfl : i = n := by omega
    exact hall j (by simpa using hj)
  · rw [List.getElem?_take, if_pos (by simp at hk; omega)]
end

section
variable {P : Program} {R : World → World → Prop} {w0 : World} {l : List Oper} {Q : Act → World → Prop}
/-! ### One step at a time -/
variable {o : Oper} {os : List Oper} {qs : List Post} {i : Nat} {a : Act} {Φ : (Nat → Bool) → World → Prop}
theorem lex_nil (h : ∀ w, R w0 w → Φ (fun _ => true) w → Q a w) : lex P R w0 l Q [] [] i a Φ := h
/-- It yields this one value, and leaves the world alone. -/
theorem lex_ex {u : Value} (hrefl : ∀ w, R w w) (hw : Region.wanted o (yielded l.toArray a.tmps) = true) (hrun : ∀ w, R w0 w → Φ (bef l i) w → (execOp a.eval o).run P w = .ok (.value u) w)
    (h : lex P R w0 l Q qs os (i + 1) (a.put o.dst u) Φ) : lex P R w0 l Q (.inl u :: qs) (o :: os) i a Φ := by
  refine ⟨?_, h⟩
  rw [if_pos hw]
  intro w hR hΦ
  rw [hrun w hR hΦ]
  exact ⟨hrefl w, rfl⟩
/-- It is not wanted. -/
theorem lex_skip (hw : Region.wanted o (yielded l.toArray a.tmps) = false) (h : lex P R w0 l Q qs os (i + 1) (a.put o.dst undef) Φ) : lex P R w0 l Q (.inl undef :: qs) (o :: os) i a Φ := by
  refine ⟨?_, h⟩
  rw [if_neg (by rw [hw]; simp)]
/-- A value of which a fact holds. -/
theorem lex_rel {p : Value → World → Prop} (hrefl : ∀ w, R w w) (hst : ∀ v w w', p v w → R w w' → p v w') (hw : Region.wanted o (yielded l.toArray a.tmps) = true) (hrun : ∀ w, R w0 w → Φ (bef l i) w → ∃ u, (execOp a.eval o).run P w = .ok (.value u) w ∧ p u w)
    (h : ∀ v, lex P R w0 l Q qs os (i + 1) (a.put o.dst v) (fun d w => (d i = true → p v w) ∧ Φ d w)) : lex P R w0 l Q (.inr p :: qs) (o :: os) i a Φ := by
  refine ⟨?_, hst, h⟩
  rw [if_pos hw]
  intro w hR hΦ
  obtain ⟨u, hu, hp⟩ := hrun w hR hΦ
  rw [hu]
  exact ⟨hrefl w, hp⟩
/-- An operation that makes new memory, and hands back a value of which a fact holds. -/
theorem lex_new {p : Value → World → Prop} (hst : ∀ v w w', p v w → R w w' → p v w') (hw : Region.wanted o (yielded l.toArray a.tmps) = true) (hrun : ∀ w, R w0 w → Φ (bef l i) w → ∃ u w', (execOp a.eval o).run P w = .ok (.value u) w' ∧ R w w' ∧ p u w')
    (h : ∀ v, lex P R w0 l Q qs os (i + 1) (a.put o.dst v) (fun d w => (d i = true → p v w) ∧ Φ d w)) : lex P R w0 l Q (.inr p :: qs) (o :: os) i a Φ := by
  refine ⟨?_, hst, h⟩
  rw [if_pos hw]
  intro w hR hΦ
  obtain ⟨u, w', hu, hRw, hp⟩ := hrun w hR hΦ
  rw [hu]
  exact ⟨hRw, hp⟩
/-- A call that hands back a value of which a fact holds (new memory). -/
theorem lex_call {p : Value → World → Prop} {f : FuncId} {args : Array Value} (hst : ∀ v w w', p v w → R w w' → p v w') (hw : Region.wanted o (yielded l.toArray a.tmps) = true)
    (hrun : ∀ w, (execOp a.eval o).run P w = .ok (.enter f args) w) (hcall : ∀ w, R w0 w → Φ (bef l i) w → Calls P f args w fun e w' => ∃ v, e = .returned v ∧ R w w' ∧ p v w')
    (h : ∀ v, lex P R w0 l Q qs os (i + 1) (a.put o.dst v) (fun d w => (d i = true → p v w) ∧ Φ d w)) : lex P R w0 l Q (.inr p :: qs) (o :: os) i a Φ := by
  refine ⟨?_, hst, h⟩
  rw [if_pos hw]
  intro w hR hΦ
  rw [hrun w]
  exact hcall w hR hΦ
/-- A call that hands back this one value. -/
theorem lex_callx {u : Value} {f : FuncId} {args : Array Value} (hw : Region.wanted o (yielded l.toArray a.tmps) = true)
    (hrun : ∀ w, (execOp a.eval o).run P w = .ok (.enter f args) w) (hcall : ∀ w, R w0 w → Φ (bef l i) w → Calls P f args w fun e w' => e = .returned u ∧ R w w')
    (h : lex P R w0 l Q qs os (i + 1) (a.put o.dst u) Φ) : lex P R w0 l Q (.inl u :: qs) (o :: os) i a Φ := by
  refine ⟨?_, h⟩
  rw [if_pos hw]
  intro w hR hΦ
  rw [hrun w]
  exact (hcall w hR hΦ).mono fun e w' h => ⟨u, h.1, h.2, rfl⟩
end

/-- Worlds that differ by draws alone. -/
def Dr (w w' : World) : Prop := ∃ n, w' = w.drewN n
theorem Dr.refl (w : World) : Dr w w := ⟨0, rfl⟩
theorem Dr.trans {a b c : World} (h : Dr a b) (k : Dr b c) : Dr a c := by
  obtain ⟨n, rfl⟩ := h
  obtain ⟨m, rfl⟩ := k
  exact ⟨n + m, by rw [World.drewN_drewN]⟩
theorem Dr.drew (w : World) : Dr w w.drew := ⟨1, rfl⟩
theorem Dr.ext {w w' : World} (h : Dr w w') : Ext w w' := by
  obtain ⟨n, rfl⟩ := h
  exact ⟨rfl, rfl, rfl, Nat.le_refl _, fun _ _ => rfl⟩

/-- A slice that reads as these bytes. -/
def SlB (l : List UInt8) (v : Value) (w : World) : Prop := ∃ A n c, v = .slice A n c ∧ Rb w A n c l
theorem SlB.stab (l : List UInt8) : ∀ v w w', SlB l v w → Ext w w' → SlB l v w' := fun _ _ _ ⟨A, n, c, hv, h⟩ he => ⟨A, n, c, hv, h.ext he⟩
theorem SlB.of_appended {w : World} {base : Nat} {e : TypeId} {l : List UInt8} {r : Ending} {w' : World} (h : Appended w base e 1 none (bcs l) r w') : ∃ v, r = .returned v ∧ Ext w w' ∧ SlB l v w' := by
  obtain ⟨B, m, d, rfl, ho, hg, _⟩ := h
  exact ⟨_, rfl, ext_of_grown hg, B, m, d, rfl, Rb.of ho.rd rfl⟩
theorem SlB.of_made {w : World} {e : TypeId} {l : List UInt8} {r : Ending} {w' : World} (h : Made w e 1 (bcs l) r w') : ∃ v, r = .returned v ∧ Ext w w' ∧ SlB l v w' := by
  obtain ⟨B, m, d, rfl, ho, he⟩ := h
  exact ⟨_, rfl, he, B, m, d, rfl, Rb.of ho.rd rfl⟩
/-- 'string(b)' in whatever world it is read. -/
theorem conv_slb {P : Program} {w : World} {src dst e : TypeId} (hs : P.underlying src = some (.slice e)) (he : P.underlying e = some (.int .u8)) (hd : P.underlying dst = some .string) {v : Value} {l : List UInt8} (h : SlB l v w) :
    (convert src dst v).run P w = .ok (.string (bs l)) w := by
  obtain ⟨A, n, c, rfl, h⟩ := h
  exact run_string_of w src dst e hs he hd A n c l h
end Go.Proofs.Ytdhmmhbmgobibaa
