/- Plain laws of programs as text: what is printed is read again, whatever remarks and blanks stand about its lines; what a wrong number is read as. No program in sight. -/
import Derived.Test.YtbmgiidecidojaaDoorAsmP
namespace Go.Proofs.YtbmgiidecidojaaDoor
open Go.RowKit

theorem split_run : ∀ (x r cur : List UInt8), (∀ b ∈ x, b.toNat ≠ 10) → splitL (x ++ r) cur = splitL r (cur ++ x)
  | [], r, cur, _ => by simp
  | b :: x, r, cur, h => by
    rw [List.cons_append, splitL, if_neg (h b (by simp)), split_run x r _ (fun y hy => h y (by simp [hy]))]; simp
theorem lines_nil : linesL [] = [[]] := rfl
theorem lines_cons {x : List UInt8} (r : List UInt8) (h : ∀ b ∈ x, b.toNat ≠ 10) : linesL (x ++ 10 :: r) = bareL x :: linesL r := by
  unfold linesL
  rw [split_run x _ [] h, List.nil_append, splitL, if_pos (by decide)]; rfl
theorem lines_one {x : List UInt8} (h : ∀ b ∈ x, b.toNat ≠ 10) : linesL x = [bareL x] := by
  unfold linesL
  have := split_run x [] [] h
  rw [List.append_nil] at this
  rw [this]; rfl
/-- A line that is bare already. -/
def clean (x : List UInt8) : Prop := (∀ b ∈ x, b.toNat ≠ 10 ∧ b.toNat ≠ 35) ∧ (∃ b r, x = b :: r ∧ blank b = false) ∧ ∃ b r, x = r ++ [b] ∧ blank b = false
theorem skip_clean {x : List UInt8} (h : clean x) (r : List UInt8) : skipB (x ++ r) = x ++ r := by
  obtain ⟨-, ⟨b, s, rfl, hb⟩, -⟩ := h
  unfold skipB
  rw [List.cons_append, List.dropWhile_cons, if_neg (by rw [hb]; simp)]
theorem end_clean {x : List UInt8} (h : clean x) {r : List UInt8} (hr : ∀ b ∈ r, blank b = true) : endB (x ++ r) = x := by
  obtain ⟨-, -, b, s, rfl, hb⟩ := h
  unfold endB
  have e : ∀ z : List UInt8, (∀ b ∈ z, blank b = true) → List.dropWhile blank (z ++ b :: s.reverse) = b :: s.reverse := by
    intro z
    induction z with
    | nil => intro _; rw [List.nil_append, List.dropWhile_cons, if_neg (by rw [hb]; simp)]
    | cons y z ih =>
      intro hz
      rw [List.cons_append, List.dropWhile_cons, if_pos (hz y (by simp)), ih fun x hx => hz x (by simp [hx])]
  have e2 : (s ++ [b] ++ r).reverse = r.reverse ++ b :: s.reverse := by simp
  rw [e2, e _ fun x hx => hr x (List.mem_reverse.mp hx)]; simp
theorem cut_clean {x : List UInt8} (h : ∀ b ∈ x, b.toNat ≠ 35) (r : List UInt8) : cutH (x ++ 35 :: r) = x := by
  unfold cutH
  induction x with
  | nil => rw [List.nil_append, List.takeWhile_cons, if_neg (by decide)]
  | cons b x ih =>
    rw [List.cons_append, List.takeWhile_cons, if_pos (by simpa using h b (by simp)), ih fun y hy => h y (by simp [hy])]
theorem cut_all {x : List UInt8} (h : ∀ b ∈ x, b.toNat ≠ 35) : cutH x = x := by
  unfold cutH
  induction x with
  | nil => rfl
  | cons b x ih =>
    rw [List.takeWhile_cons, if_pos (by simpa using h b (by simp)), ih fun y hy => h y (by simp [hy])]
theorem bare_clean {x : List UInt8} (h : clean x) : bareL x = x := by
  unfold bareL
  rw [cut_all fun b hb => (h.1 b hb).2]
  have h1 := skip_clean h []
  have h2 := end_clean h (r := []) (by simp)
  rw [List.append_nil] at h1 h2
  rw [h1, h2]
/-- What a remark puts behind a line. -/
def remL (m : List UInt8) : List UInt8 := 9 :: 32 :: 35 :: m
theorem bare_rem {x : List UInt8} (h : clean x) (m : List UInt8) : bareL (x ++ remL m) = x := by
  unfold bareL remL
  have e : x ++ 9 :: 32 :: 35 :: m = (x ++ [9, 32]) ++ 35 :: m := by simp
  rw [e, cut_clean, skip_clean h, end_clean h]
  · intro b hb
    simp at hb
    rcases hb with rfl | rfl <;> decide
  · intro b hb
    rcases List.mem_append.mp hb with hb | hb
    · exact (h.1 b hb).2
    · simp at hb
      rcases hb with rfl | rfl <;> decide

theorem title_bytes : ∀ (n : Nat) (l : List UInt8), l.length ≤ n → (rs l).all plainR = true → ∀ k, k < l.length → 32 ≤ bt l k
  | 0, l, h, _, k, hk => by omega
  | n + 1, l, h, ha, k, hk => by
    have hne : l ≠ [] := by rintro rfl; simp at hk
    rw [rs_cons hne, List.all_cons, Bool.and_eq_true] at ha
    have hp := (dec_pos l).1
    by_cases hk2 : k < (dec l).2
    · by_cases h0 : bt l 0 < 128
      · have hd := dec_low h0
        rw [hd] at hk2 ha
        obtain rfl : k = 0 := by dsimp only at hk2; omega
        have := ha.1
        simp [plainR] at this
        exact this.1
      · have := (dec_high (l := l) (by omega)).2 k hk2; omega
    · have := title_bytes n (l.drop (dec l).2) (by rw [List.length_drop]; omega) ha.2 (k - (dec l).2) (by rw [List.length_drop]; omega)
      rwa [bt_drop, show (dec l).2 + (k - (dec l).2) = k by omega] at this
theorem title_mem {t : List UInt8} (h : titleL t = true) : ∀ b ∈ t, 32 ≤ b.toNat := by
  unfold titleL at h
  simp only [Bool.and_eq_true] at h
  intro b hb
  obtain ⟨k, hk, rfl⟩ := List.getElem_of_mem hb
  have := title_bytes t.length t (Nat.le_refl _) h.1.1.1 k hk
  rwa [bt_get hk] at this
theorem title_some {t : List UInt8} (h : titleL t = true) : t ≠ [] := by rintro rfl; exact absurd h (by decide)
theorem title_clean {t : List UInt8} (h : titleL t = true) (ha : apartL t = false) : clean t := by
  have hm := title_mem h
  have hne := title_some h
  unfold apartL at ha
  simp only [Bool.or_eq_false_iff] at ha
  obtain ⟨⟨h35, hh⟩, hl⟩ := ha
  rw [List.any_eq_false] at h35
  have hbl : ∀ b ∈ t, b ≠ 32 → blank b = false := fun b hb h32 => by
    have := hm b hb
    unfold blank
    simp only [Bool.or_eq_false_iff, beq_eq_false_iff_ne]
    exact ⟨fun e => h32 (UInt8.toNat_inj.mp e), by omega⟩
  refine ⟨fun b hb => ⟨by have := hm b hb; omega, by have := h35 b hb; simpa using this⟩, ?_, ?_⟩
  · obtain ⟨b, r, rfl⟩ := List.exists_cons_of_ne_nil hne
    refine ⟨b, r, rfl, hbl b (by simp) ?_⟩
    rintro rfl; simp at hh
  · refine ⟨t.getLast hne, t.dropLast, (List.dropLast_concat_getLast hne).symm, hbl _ (List.getLast_mem hne) ?_⟩
    intro e
    rw [List.getLast?_eq_some_getLast hne, e] at hl
    simp at hl
theorem clean_app {a b : List UInt8} (ha : clean a) (hb : clean b) {m : List UInt8} (hm : ∀ x ∈ m, x.toNat ≠ 10 ∧ x.toNat ≠ 35) : clean (a ++ m ++ b) := by
  obtain ⟨a1, ⟨x, r, rfl, hx⟩, -⟩ := ha
  obtain ⟨b1, -, ⟨y, s, rfl, hy⟩⟩ := hb
  refine ⟨?_, ⟨x, r ++ m ++ (s ++ [y]), by simp, hx⟩, ⟨y, x :: r ++ m ++ s, by simp, hy⟩⟩
  intro z hz
  rcases List.mem_append.mp hz with hz | hz
  · rcases List.mem_append.mp hz with hz | hz
    · exact a1 z hz
    · exact hm z hz
  · exact b1 z hz
theorem ttlW_clean : clean ttlW := ⟨by decide, ⟨116, [105, 116, 108, 101], rfl, by decide⟩, ⟨101, [116, 105, 116, 108], rfl, by decide⟩⟩
theorem clean_blank {a b : List UInt8} (ha : clean a) (hb : clean b) : clean (a ++ 32 :: b) := by
  have := clean_app ha hb (m := [32]) (by decide)
  simpa using this
theorem ttl_line {t : List UInt8} (h : titleL t = true) (ha : apartL t = false) : ttlL (ttlW ++ 32 :: t) = some t := by
  have hc := title_clean h ha
  have hb : bareL ((ttlW ++ 32 :: t).drop 5) = t := by
    show bareL (32 :: t) = t
    unfold bareL
    rw [cut_all (x := 32 :: t) (fun b hb => by
      rcases List.mem_cons.mp hb with rfl | hb
      · decide
      · exact (hc.1 b hb).2)]
    have h1 := skip_clean hc []
    have h2 := end_clean hc (r := []) (by simp)
    rw [List.append_nil] at h1 h2
    rw [show skipB (32 :: t) = skipB t from rfl, h1, h2]
  unfold ttlL
  have h5 : 5 < (ttlW ++ 32 :: t).length := by simp [ttlW]
  rw [hb, if_pos ⟨rfl, h5, rfl, h⟩]

theorem words_one {x : List UInt8} (hne : x ≠ []) (h : ∀ b ∈ x, blank b = false) : wordsL x = [x] := by
  unfold wordsL
  have := wgo_skip x.length x [] (Nat.le_refl _) (by simpa using h)
  rw [this, List.drop_length, List.take_length, List.nil_append, wgo, if_neg hne]
theorem dig_clean {b : UInt8} (h : isDig b = true) : (b.toNat ≠ 10 ∧ b.toNat ≠ 35) ∧ blank b = false := by
  unfold isDig at h
  simp only [Bool.and_eq_true, decide_eq_true_eq] at h
  refine ⟨by omega, ?_⟩
  unfold blank
  simp only [Bool.or_eq_false_iff, beq_eq_false_iff_ne]
  omega
theorem dec_bytes (n : Int) : ∀ b ∈ decL n, (b.toNat ≠ 10 ∧ b.toNat ≠ 35) ∧ blank b = false := by
  intro b hb
  unfold decL at hb
  rcases List.mem_append.mp hb with hb | hb
  · split at hb
    · simp at hb; subst hb; decide
    · simp at hb
  · have := natL_all n.natAbs
    rw [List.all_eq_true] at this
    exact dig_clean (this b hb)
theorem all_clean {x : List UInt8} (hne : x ≠ []) (h : ∀ b ∈ x, (b.toNat ≠ 10 ∧ b.toNat ≠ 35) ∧ blank b = false) : clean x := by
  refine ⟨fun b hb => (h b hb).1, ?_, ?_⟩
  · obtain ⟨b, r, rfl⟩ := List.exists_cons_of_ne_nil hne
    exact ⟨b, r, rfl, (h b (by simp)).2⟩
  · exact ⟨x.getLast hne, x.dropLast, (List.dropLast_concat_getLast hne).symm, (h _ (List.getLast_mem hne)).2⟩
theorem dec_clean (n : Int) : clean (decL n) := all_clean (decL_ne n) (dec_bytes n)
theorem names_bytes : ∀ c, c < 16 → namesL.getD c [] ≠ [] ∧ ∀ b ∈ namesL.getD c [], (b.toNat ≠ 10 ∧ b.toNat ≠ 35) ∧ blank b = false := by decide
theorem names_own2 : ∀ c, c < 16 → namesL.idxOf (namesL.getD c []) = c := by decide
theorem names_len : ∀ c, c < 16 → (namesL.getD c []).length ≤ 5 := by decide
theorem takes_code {x : Int} (h : ¬ takesL x < 0) : 0 ≤ x ∧ x ≤ 15 := by
  unfold takesL at h
  repeat' split at h
  all_goals omega
theorem takes_three (x : Int) : takesL x ≤ 3 := by
  unfold takesL
  repeat' split
  all_goals omega
theorem args_dec (n : Int) (h : smallI n = true) (r : List (List UInt8)) : argsL (decL n :: r) = match argsL r with | some m => some (n :: m) | none => none := by
  unfold smallI at h
  simp only [Bool.and_eq_true, decide_eq_true_eq] at h
  show (match numL (decL n), argsL r with | some n, some m => some (n :: m) | _, _ => none) = _
  rw [numL_dec h.1 h.2]
  cases argsL r <;> rfl
theorem opW_of {c : Nat} (hc : c < 16) {r : List (List UInt8)} (h : (r.length : Int) = takesL c) : opW (namesL.getD c [] :: r) = (argsL r).map (mkO c) := by
  show (if namesL.idxOf (namesL.getD c []) < 16 ∧ (r.length : Int) = takesL (namesL.idxOf (namesL.getD c [])) then (argsL r).map (mkO (namesL.idxOf (namesL.getD c []))) else none) = _
  rw [names_own2 c hc, if_pos ⟨hc, h⟩]
theorem arg0 (a b c : Int) : argTx 0 0 [a, b, c] = if a = 0 ∧ b = 0 ∧ c = 0 then some [] else none := by
  by_cases ha : a = 0 <;> by_cases hb : b = 0 <;> by_cases hc : c = 0 <;> simp [argTx, ha, hb, hc]
theorem arg1 (a b c : Int) : argTx 1 0 [a, b, c] = if b = 0 ∧ c = 0 then some (32 :: decL a) else none := by
  by_cases hb : b = 0 <;> by_cases hc : c = 0 <;> simp [argTx, hb, hc]
theorem arg2 (a b c : Int) : argTx 2 0 [a, b, c] = if c = 0 then some (32 :: decL a ++ 32 :: decL b) else none := by
  by_cases hc : c = 0 <;> simp [argTx, hc]
theorem arg3 (a b c : Int) : argTx 3 0 [a, b, c] = some (32 :: decL a ++ (32 :: decL b ++ 32 :: decL c)) := by
  simp [argTx]
/-- A printed line is bare, and is read as its operation. -/
theorem op_line {o : OpT} (hs : smallO o = true) {x : List UInt8} (h : opTx o = some x) : clean x ∧ opL x = some o := by
  obtain ⟨k, a, b, c⟩ := o
  unfold opTx at h
  unfold smallO at hs
  simp only [Bool.and_eq_true] at hs
  obtain ⟨⟨⟨-, ha⟩, hb⟩, hc⟩ := hs
  dsimp only at h ha hb hc
  split at h
  · cases h
  · rename_i hT
    obtain ⟨h0, h15⟩ := takes_code hT
    obtain ⟨q, rfl⟩ := Int.eq_ofNat_of_zero_le h0
    have hq : q < 16 := by omega
    have hT3 := takes_three (q : Int)
    obtain ⟨hne, hnb⟩ := names_bytes q hq
    have hnc := all_clean hne hnb
    have hw1 := words_one hne (fun b hb => (hnb b hb).2)
    have hop : ∀ r : List (List UInt8), (r.length : Int) = takesL q → opW (namesL.getD q [] :: r) = (argsL r).map (mkO q) := fun r hr => opW_of hq hr
    simp only [Int.toNat_natCast] at h
    generalize namesL.getD q [] = nm at *
    generalize takesL (q : Int) = T at *
    have hwd : ∀ n : Int, wordsL (decL n) = [decL n] := fun n => words_one (decL_ne n) (fun b hb => (dec_bytes n b hb).2)
    have hTc : T = 0 ∨ T = 1 ∨ T = 2 ∨ T = 3 := by omega
    rcases hTc with rfl | rfl | rfl | rfl
    · rw [arg0] at h
      split at h
      · rename_i hz
        obtain ⟨rfl, rfl, rfl⟩ := hz
        simp at h
        subst h
        refine ⟨hnc, ?_⟩
        unfold opL
        rw [hw1, hop [] rfl]; rfl
      · cases h
    · rw [arg1] at h
      split at h
      · rename_i hz
        obtain ⟨rfl, rfl⟩ := hz
        simp at h
        subst h
        refine ⟨clean_blank hnc (dec_clean a), ?_⟩
        unfold opL
        rw [words_join, hw1, hwd, List.singleton_append, hop _ rfl, args_dec a ha]; rfl
      · cases h
    · rw [arg2] at h
      split at h
      · rename_i hz
        subst hz
        simp at h
        subst h
        have hc2 := clean_blank (clean_blank hnc (dec_clean a)) (dec_clean b)
        rw [List.append_assoc] at hc2
        refine ⟨hc2, ?_⟩
        unfold opL
        rw [words_join, words_join, hw1, hwd, hwd, List.singleton_append, List.singleton_append, hop _ rfl, args_dec a ha, args_dec b hb]; rfl
      · cases h
    · rw [arg3] at h
      simp at h
      subst h
      have hc2 := clean_blank (clean_blank (clean_blank hnc (dec_clean a)) (dec_clean b)) (dec_clean c)
      rw [List.append_assoc, List.append_assoc] at hc2
      simp only [List.cons_append] at hc2
      refine ⟨by simpa using hc2, ?_⟩
      unfold opL
      rw [words_join, words_join, words_join, hw1, hwd, hwd, hwd, List.singleton_append, List.singleton_append, List.singleton_append, hop _ rfl, args_dec a ha, args_dec b hb, args_dec c hc]; rfl
end Go.Proofs.YtbmgiidecidojaaDoor
