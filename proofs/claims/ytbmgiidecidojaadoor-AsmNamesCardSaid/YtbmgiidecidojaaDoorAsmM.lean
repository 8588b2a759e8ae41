/- Plain laws of programs as text, by lines: what is printed is read again, whatever remarks and blanks stand about its lines; many lines. No program in sight. -/
import Derived.Test.YtbmgiidecidojaaDoorAsmL
import Derived.Test.YtbmgiidecidojaaDoorAsmQ
import Derived.Test.YtbmgiidecidojaaDoorAsmV
namespace Go.Proofs.YtbmgiidecidojaaDoor
open Go.RowKit

/-- Lines, each with its end. -/
def joinN (xs : List (List UInt8)) : List UInt8 := xs.flatMap fun x => x ++ [10]
theorem joinN_nil : joinN [] = [] := rfl
theorem joinN_cons (x : List UInt8) (xs : List (List UInt8)) : joinN (x :: xs) = x ++ 10 :: joinN xs := by simp [joinN]
theorem joinN_append (a b : List (List UInt8)) : joinN (a ++ b) = joinN a ++ joinN b := by simp [joinN]
theorem lines_join : ∀ (xs : List (List UInt8)) (r : List UInt8), (∀ x ∈ xs, ∀ b ∈ x, b.toNat ≠ 10) → linesL (joinN xs ++ r) = xs.map bareL ++ linesL r
  | [], r, _ => rfl
  | x :: xs, r, h => by
    rw [joinN_cons, List.append_assoc, List.cons_append, lines_cons _ (h x (by simp)), lines_join xs r fun y hy => h y (by simp [hy])]
    rfl
/-- Lines that are read as these operations. -/
inductive Reads : List OpT → List (List UInt8) → Prop
  | nil : Reads [] []
  | cons {o : OpT} {x : List UInt8} {l : List OpT} {xs : List (List UInt8)} : clean x → opL x = some o → Reads l xs → Reads (o :: l) (x :: xs)
theorem ops_lines : ∀ (l : List OpT) (y : List UInt8), l.all smallO = true → opsTx l = some y → ∃ xs, y = joinN xs ∧ Reads l xs
  | [], y, _, h => by
    have : y = [] := by
      rw [opsTx] at h; exact (Option.some.inj h).symm
    exact ⟨[], this, .nil⟩
  | o :: l, y, hs, h => by
    rw [List.all_cons, Bool.and_eq_true] at hs
    rw [opsTx] at h
    cases hx : opTx o with
    | none => rw [hx] at h; simp at h
    | some x =>
      cases hy : opsTx l with
      | none => rw [hx, hy] at h; simp at h
      | some z =>
        rw [hx, hy] at h
        simp at h
        obtain ⟨xs, rfl, hr⟩ := ops_lines l z hs.2 hy
        obtain ⟨hc, ho⟩ := op_line hs.1 hx
        exact ⟨x :: xs, by rw [joinN_cons]; exact h.symm, .cons hc ho hr⟩
theorem Reads.clean_all : ∀ {l : List OpT} {xs : List (List UInt8)}, Reads l xs → ∀ x ∈ xs, clean x
  | _, _, .nil, x, h => by simp at h
  | _, _, .cons hc _ hr, x, h => by
    rcases List.mem_cons.mp h with rfl | h
    · exact hc
    · exact hr.clean_all x h
theorem parse_ops (t : List UInt8) : ∀ {l : List OpT} {xs : List (List UInt8)}, Reads l xs → ∀ (i : Nat) (ops : List OpT), ops.length + l.length ≤ 64 → ops ++ l ≠ [] → parseF (xs ++ [[]]) i (some t) ops = .inr (t, ops ++ l)
  | _, _, .nil, i, ops, _, hne => by
    rw [List.nil_append, pf_blank, parseF, if_neg (by simpa using hne)]; simp
  | _, _, .cons (x := x) (o := o) (l := l) hc ho hr, i, ops, h, _ => by
    have hx : x ≠ [] := by obtain ⟨-, ⟨b, r, rfl, -⟩, -⟩ := hc; simp
    rw [List.cons_append, pf_op hx, ho]
    dsimp only
    simp at h
    rw [if_neg (by omega), parse_ops t hr (i + 1) (ops ++ [o]) (by simp; omega) (by simp)]
    simp
theorem print_lines {t : List UInt8} {l : List OpT} (h : printL t l ≠ []) : ∃ xs, printL t l = joinN ((ttlW ++ 32 :: t) :: xs) ∧ clean (ttlW ++ 32 :: t) ∧ ttlL (ttlW ++ 32 :: t) = some t ∧ Reads l xs ∧ 1 ≤ l.length ∧ l.length ≤ 64 ∧ titleL t = true := by
  unfold printL at h ⊢
  split at h
  · rename_i hf
    rw [if_pos hf]
    cases hy : opsTx l with
    | none => rw [hy] at h; exact absurd rfl h
    | some y =>
      have hf1 := hf.1
      unfold formL at hf1
      simp only [Bool.and_eq_true, decide_eq_true_eq] at hf1
      obtain ⟨⟨⟨htl, h1⟩, h64⟩, hsm⟩ := hf1
      obtain ⟨xs, rfl, hr⟩ := ops_lines l y hsm hy
      refine ⟨xs, ?_, clean_blank ttlW_clean (title_clean htl hf.2), ttl_line htl hf.2, hr, h1, h64, htl⟩
      rw [joinN_cons]
  · exact absurd rfl h
theorem clean_no10 {x : List UInt8} (h : clean x) : ∀ b ∈ x, b.toNat ≠ 10 := fun b hb => (h.1 b hb).1
theorem map_bare : ∀ {xs : List (List UInt8)}, (∀ x ∈ xs, clean x) → xs.map bareL = xs
  | [], _ => rfl
  | x :: xs, h => by rw [List.map_cons, bare_clean (h x (by simp)), map_bare fun y hy => h y (by simp [hy])]
theorem parse_print {t : List UInt8} {l : List OpT} (h : printL t l ≠ []) : parseL (printL t l) = .inr (t, l) := by
  obtain ⟨xs, he, hc, ht, hr, h1, h64, -⟩ := print_lines h
  have hne : ttlW ++ 32 :: t ≠ [] := by simp [ttlW]
  unfold parseL
  have hl := lines_join ((ttlW ++ 32 :: t) :: xs) [] fun x hx => by
    rcases List.mem_cons.mp hx with rfl | hx
    · exact clean_no10 hc
    · exact clean_no10 (hr.clean_all x hx)
  rw [List.append_nil, lines_nil] at hl
  rw [he, hl, List.map_cons, bare_clean hc, map_bare hr.clean_all, List.cons_append, pf_ttl hne, ht]
  exact parse_ops t hr 1 [] (by simpa using h64) (by intro e; rw [List.nil_append] at e; rw [e] at h1; simp at h1)
theorem print_inj {t t' : List UInt8} {l l' : List OpT} (h : printL t l ≠ []) (he : printL t l = printL t' l') : t = t' ∧ l = l' := by
  have h1 := parse_print h
  have h2 := parse_print (t := t') (l := l') (by rw [← he]; exact h)
  rw [he, h2] at h1
  injection h1 with h1
  injection h1 with h3 h4
  exact ⟨h3.symm, h4.symm⟩
/-- A remark at each line's end. -/
def decoL (m s : List UInt8) : List UInt8 := s.flatMap fun b => if b.toNat = 10 then remL m ++ [b] else [b]
theorem deco_append (m a b : List UInt8) : decoL m (a ++ b) = decoL m a ++ decoL m b := by simp [decoL]
theorem deco_line {m x : List UInt8} (h : ∀ b ∈ x, b.toNat ≠ 10) : decoL m x = x := by
  induction x with
  | nil => rfl
  | cons b x ih =>
    unfold decoL at ih ⊢
    rw [List.flatMap_cons, if_neg (h b (by simp)), ih fun y hy => h y (by simp [hy])]; rfl
theorem deco_join (m : List UInt8) : ∀ {xs : List (List UInt8)}, (∀ x ∈ xs, ∀ b ∈ x, b.toNat ≠ 10) → decoL m (joinN xs) = joinN (xs.map (· ++ remL m))
  | [], _ => rfl
  | x :: xs, h => by
    rw [joinN_cons, deco_append, deco_line (h x (by simp)), List.map_cons, joinN_cons]
    have : decoL m (10 :: joinN xs) = remL m ++ 10 :: decoL m (joinN xs) := by
      show (if (10 : UInt8).toNat = 10 then remL m ++ [10] else [10]) ++ decoL m (joinN xs) = _
      rw [if_pos (by decide)]; simp
    rw [this, deco_join m fun y hy => h y (by simp [hy])]; simp
theorem map_rem (m : List UInt8) : ∀ {xs : List (List UInt8)}, (∀ x ∈ xs, clean x) → (xs.map (· ++ remL m)).map bareL = xs
  | [], _ => rfl
  | x :: xs, h => by rw [List.map_cons, List.map_cons, bare_rem (h x (by simp)), map_rem m fun y hy => h y (by simp [hy])]
theorem parse_deco {t : List UInt8} {l : List OpT} (h : printL t l ≠ []) {m : List UInt8} (hm : ∀ b ∈ m, b.toNat ≠ 10) : parseL (35 :: 32 :: m ++ 10 :: 32 :: 9 :: 10 :: decoL m (printL t l)) = .inr (t, l) := by
  obtain ⟨xs, he, hc, ht, hr, h1, h64, -⟩ := print_lines h
  have hne : ttlW ++ 32 :: t ≠ [] := by simp [ttlW]
  have hall : ∀ x ∈ (ttlW ++ 32 :: t) :: xs, clean x := fun x hx => by
    rcases List.mem_cons.mp hx with rfl | hx
    · exact hc
    · exact hr.clean_all x hx
  have hrem : ∀ b ∈ remL m, b.toNat ≠ 10 := fun b hb => by
    unfold remL at hb
    simp only [List.mem_cons] at hb
    rcases hb with rfl | rfl | rfl | hb
    · decide
    · decide
    · decide
    · exact hm b hb
  unfold parseL
  rw [he, deco_join m fun x hx => clean_no10 (hall x hx)]
  have h35 : ∀ b ∈ (35 :: 32 :: m : List UInt8), b.toNat ≠ 10 := fun b hb => by
    simp only [List.mem_cons] at hb
    rcases hb with rfl | rfl | hb
    · decide
    · decide
    · exact hm b hb
  rw [lines_cons _ h35, show (32 :: 9 :: 10 :: joinN (((ttlW ++ 32 :: t) :: xs).map (· ++ remL m)) : List UInt8) = [32, 9] ++ 10 :: joinN (((ttlW ++ 32 :: t) :: xs).map (· ++ remL m)) from rfl, lines_cons _ (by decide)]
  have hb1 : bareL (35 :: 32 :: m) = [] := by
    unfold bareL cutH
    rw [List.takeWhile_cons, if_neg (by decide)]; rfl
  have hb2 : bareL [32, 9] = [] := by decide
  have hl := lines_join (((ttlW ++ 32 :: t) :: xs).map (· ++ remL m)) [] fun x hx => by
    obtain ⟨y, hy, rfl⟩ := List.mem_map.mp hx
    intro b hb
    rcases List.mem_append.mp hb with hb | hb
    · exact clean_no10 (hall y hy) b hb
    · exact hrem b hb
  rw [List.append_nil, lines_nil, map_rem m hall] at hl
  rw [hl, hb1, hb2, pf_blank, pf_blank, List.cons_append, pf_ttl hne, ht]
  exact parse_ops t hr 3 [] (by simpa using h64) (by intro e; rw [List.nil_append] at e; rw [e] at h1; simp at h1)

theorem argTx_len (T : Int) : ∀ (ns : List Int) (j : Nat) (p : List UInt8), (∀ n ∈ ns, smallI n = true) → argTx T j ns = some p → p.length ≤ 21 * ns.length
  | [], j, p, _, h => by rw [argTx] at h; cases h; simp
  | x :: r, j, p, hs, h => by
    have hx := hs x (by simp)
    unfold smallI at hx
    simp only [Bool.and_eq_true, decide_eq_true_eq] at hx
    have hd := decL_len (n := x) (by omega) (by omega)
    rw [argTx] at h
    split at h
    · cases hq : argTx T (j + 1) r with
      | none => rw [hq] at h; cases h
      | some q =>
        have := argTx_len T r (j + 1) q (fun n hn => hs n (by simp [hn])) hq
        rw [hq] at h
        simp at h
        subst h
        simp; omega
    · split at h
      · have := argTx_len T r (j + 1) p (fun n hn => hs n (by simp [hn])) h
        simp; omega
      · cases h
theorem names_len3 (c : Nat) : (namesL.getD c []).length ≤ 5 := by
  by_cases h : c < 16
  · exact names_len c h
  · rw [List.getD_eq_getElem?_getD, List.getElem?_eq_none (by show 16 ≤ c; omega)]; simp
theorem opTx_len {o : OpT} {x : List UInt8} (hs : smallO o = true) (h : opTx o = some x) : x.length ≤ 68 := by
  unfold opTx at h
  unfold smallO at hs
  simp only [Bool.and_eq_true] at hs
  split at h
  · cases h
  · cases hp : argTx (takesL o.1) 0 [o.2.1, o.2.2.1, o.2.2.2] with
    | none => rw [hp] at h; cases h
    | some p =>
      have h1 := argTx_len _ _ _ p (fun n hn => by
        simp only [List.mem_cons, List.not_mem_nil, or_false] at hn
        rcases hn with rfl | rfl | rfl
        · exact hs.1.1.2
        · exact hs.1.2
        · exact hs.2) hp
      have h2 := names_len3 o.1.toNat
      rw [hp] at h
      simp at h h1
      subst h
      rw [List.length_append]
      simp at h2
      omega
theorem opsTx_len : ∀ (l : List OpT) (y : List UInt8), l.all smallO = true → opsTx l = some y → y.length ≤ 69 * l.length
  | [], y, _, h => by rw [opsTx] at h; cases h; simp
  | o :: l, y, hs, h => by
    rw [List.all_cons, Bool.and_eq_true] at hs
    rw [opsTx] at h
    cases hx : opTx o with
    | none => rw [hx] at h; simp at h
    | some x =>
      cases hy : opsTx l with
      | none => rw [hx, hy] at h; simp at h
      | some z =>
        have h1 := opTx_len hs.1 hx
        have h2 := opsTx_len l z hs.2 hy
        rw [hx, hy] at h
        simp at h
        subst h
        simp; omega
theorem print_len (t : List UInt8) (l : List OpT) : (printL t l).length ≤ 6500 := by
  unfold printL
  split
  · rename_i hf
    have hf1 := hf.1
    unfold formL at hf1
    simp only [Bool.and_eq_true, decide_eq_true_eq] at hf1
    cases hy : opsTx l with
    | none => simp
    | some y =>
      have h1 := opsTx_len l y hf1.2 hy
      have h2 := title_len hf1.1.1.1
      simp [ttlW]; omega
  · simp
/-- The lines of AsmMany. -/
def manyT : List UInt8 := [116, 105, 116, 108, 101, 32, 109, 97, 110, 121]
def manyN : List UInt8 := [32, 32, 35, 32, 110, 111, 116, 104, 105, 110, 103]
def manyO : List UInt8 := [116, 105, 109, 101, 32, 51]
def manyB (g n : Nat) : List (List UInt8) := (List.replicate n (List.replicate g manyN ++ [manyO])).flatten
theorem manyB_front (g n : Nat) : manyB g (n + 1) = List.replicate g manyN ++ [manyO] ++ manyB g n := by unfold manyB; rw [List.replicate_succ, List.flatten_cons]
theorem manyB_back (g n : Nat) : manyB g (n + 1) = manyB g n ++ (List.replicate g manyN ++ [manyO]) := by unfold manyB; rw [List.replicate_succ', List.flatten_append]; simp
theorem many_no10 {g n : Nat} : ∀ x ∈ manyT :: manyB g n, ∀ b ∈ x, b.toNat ≠ 10 := by
  intro x hx
  have : x = manyT ∨ x = manyN ∨ x = manyO := by
    rcases List.mem_cons.mp hx with rfl | hx
    · exact .inl rfl
    · unfold manyB at hx
      obtain ⟨l, hl, hx⟩ := List.mem_flatten.mp hx
      obtain ⟨-, rfl⟩ := List.mem_replicate.mp hl
      rcases List.mem_append.mp hx with hx | hx
      · exact .inr (.inl (List.mem_replicate.mp hx).2)
      · exact .inr (.inr (by simpa using hx))
  rcases this with rfl | rfl | rfl <;> decide
theorem many_step (t : List UInt8) (r : List (List UInt8)) (ops : List OpT) : ∀ (g i : Nat), parseF (List.replicate g [] ++ manyO :: r) i (some t) ops = if 64 ≤ ops.length then .inl (i + g + 1) else parseF r (i + g + 1) (some t) (ops ++ [(15, 3, 0, 0)])
  | 0, i => by
    have ho : opL manyO = some (15, 3, 0, 0) := by decide +kernel
    rw [List.replicate_zero, List.nil_append, pf_op (by decide), ho]
  | g + 1, i => by
    rw [List.replicate_succ, List.cons_append, pf_blank, many_step t r ops g (i + 1), show i + 1 + g = i + (g + 1) by omega]
theorem many_bare (g n : Nat) : (manyB g n).map bareL = (List.replicate n (List.replicate g [] ++ [manyO])).flatten := by
  unfold manyB
  have h1 : bareL manyN = [] := by decide
  have h2 : bareL manyO = manyO := by decide
  rw [List.map_flatten, List.map_replicate, List.map_append, List.map_replicate, h1, List.map_cons, h2, List.map_nil]
theorem many_all (t : List UInt8) (g : Nat) : ∀ (n i : Nat) (ops : List OpT), ops.length ≤ 64 → parseF ((List.replicate n (List.replicate g [] ++ [manyO])).flatten ++ [[]]) i (some t) ops =
    if ops.length + n ≤ 64 then (if ops ++ List.replicate n (15, 3, 0, 0) = [] then .inl 0 else .inr (t, ops ++ List.replicate n (15, 3, 0, 0))) else .inl (i + (65 - ops.length) * (g + 1))
  | 0, i, ops, h => by
    rw [List.replicate_zero, List.flatten_nil, List.nil_append, pf_blank, parseF]
    conv => rhs; rw [if_pos (show ops.length + 0 ≤ 64 by omega), List.replicate_zero, List.append_nil]
    rfl
  | n + 1, i, ops, h => by
    rw [List.replicate_succ, List.flatten_cons, List.append_assoc, List.append_assoc, List.singleton_append, many_step]
    by_cases h6 : 64 ≤ ops.length
    · rw [if_pos h6, if_neg (by omega)]
      have : 65 - ops.length = 1 := by omega
      rw [this]; congr 1; omega
    · rw [if_neg h6, many_all t g n _ _ (by simp; omega)]
      simp only [List.length_append, List.length_singleton]
      by_cases h7 : ops.length + 1 + n ≤ 64
      · conv => rhs; rw [if_pos (show ops.length + (n + 1) ≤ 64 by omega)]
        rw [if_pos h7, List.append_assoc, List.singleton_append, ← List.replicate_succ]
      · conv => rhs; rw [if_neg (show ¬ ops.length + (n + 1) ≤ 64 by omega)]
        rw [if_neg h7]
        congr 1
        have : 65 - ops.length = 65 - (ops.length + 1) + 1 := by omega
        rw [this, Nat.add_mul]; omega
theorem parse_many (g n : Nat) : parseL (joinN (manyT :: manyB g n)) = if n = 0 then .inl 0 else if n ≤ 64 then .inr ([109, 97, 110, 121], List.replicate n (15, 3, 0, 0)) else .inl (1 + 65 * (g + 1)) := by
  have hl := lines_join (manyT :: manyB g n) [] many_no10
  rw [List.append_nil, lines_nil, List.map_cons, many_bare] at hl
  have hb : bareL manyT = manyT := by decide
  have ht : ttlL manyT = some [109, 97, 110, 121] := by decide +kernel
  unfold parseL
  rw [hl, hb, List.cons_append, pf_ttl (by decide), ht]
  dsimp only
  rw [many_all _ g n _ [] (by simp)]
  simp only [List.length_nil, Nat.zero_add, List.nil_append, Nat.sub_zero]
  by_cases h0 : n = 0
  · subst h0; rfl
  · rw [if_neg h0]
    by_cases h1 : n ≤ 64
    · rw [if_pos h1, if_pos h1, if_neg (by simp; exact h0)]
    · rw [if_neg h1, if_neg h1]
end Go.Proofs.YtbmgiidecidojaaDoor
