/- Plain laws: an operation's name and numbers, as a line. No program in sight. -/
import Derived.Test.YtbmgiidecidojaaDoorAsmM
namespace Go.Proofs.YtbmgiidecidojaaDoor
open Go.RowKit

theorem numL_big {v : Int} (h : smallI v = false) : numL (decL v) = none := by
  unfold smallI at h
  simp only [Bool.and_eq_false_iff, decide_eq_false_iff_not] at h
  have hf := natL_first v.natAbs
  have hv := natL_vl v.natAbs
  unfold decL
  by_cases hn : v < 0
  · rw [if_pos hn]
    show (if (45 : UInt8).toNat = 45 then numD true (natL v.natAbs) else _) = none
    rw [if_pos (by decide)]
    exact nd_big (.inl (by rw [hv]; omega))
  · rw [if_neg hn, List.nil_append]
    unfold numL
    rw [if_neg (by omega)]
    exact nd_big (.inr ⟨by rw [hv]; omega, rfl⟩)
/-- Numbers behind a name. -/
def argsT (vs : List Int) : List UInt8 := vs.flatMap fun v => 32 :: decL v
theorem argsT_snoc (vs : List Int) (v : Int) : argsT (vs ++ [v]) = argsT vs ++ 32 :: decL v := by simp [argsT]
theorem words_args : ∀ (vs : List Int) (nm : List UInt8), nm ≠ [] → (∀ b ∈ nm, blank b = false) → wordsL (nm ++ argsT vs) = nm :: vs.map decL
  | [], nm, h, hb => by
    show wordsL (nm ++ []) = [nm]
    rw [List.append_nil, words_one h hb]
  | v :: r, nm, h, hb => by
    have e : nm ++ argsT (v :: r) = nm ++ 32 :: (decL v ++ argsT r) := by simp [argsT]
    rw [e, words_join, words_one h hb, words_args r (decL v) (decL_ne v) (fun b hb => (dec_bytes v b hb).2)]; rfl
theorem clean_args : ∀ (vs : List Int) (nm : List UInt8), clean nm → clean (nm ++ argsT vs)
  | [], nm, h => by
    show clean (nm ++ [])
    rw [List.append_nil]; exact h
  | v :: r, nm, h => by
    have e : nm ++ argsT (v :: r) = nm ++ 32 :: (decL v ++ argsT r) := by simp [argsT]
    rw [e]
    exact clean_blank h (clean_args r (decL v) (dec_clean v))
theorem argsL_map : ∀ vs : List Int, argsL (vs.map decL) = if vs.all smallI = true then some vs else none
  | [] => rfl
  | v :: r => by
    rw [List.map_cons, List.all_cons]
    cases hv : smallI v with
    | false =>
      rw [Bool.false_and, if_neg (by simp)]
      show (match numL (decL v), argsL (r.map decL) with | some n, some m => some (n :: m) | _, _ => none) = none
      rw [numL_big hv]
    | true =>
      rw [args_dec v hv, argsL_map r, Bool.true_and]
      by_cases hr : r.all smallI = true
      · rw [if_pos hr, if_pos hr]
      · rw [if_neg hr, if_neg hr]
def nameT : List UInt8 := [116, 105, 116, 108, 101, 32, 116, 10]
theorem names_parse {q : Nat} (hq : q < 16) (vs : List Int) : parseL (nameT ++ (namesL.getD q [] ++ argsT vs)) = if (vs.length : Int) = takesL q ∧ vs.all smallI = true then .inr ([116], [mkO q vs]) else .inl 2 := by
  obtain ⟨hne, hnb⟩ := names_bytes q hq
  have hc := clean_args vs _ (all_clean hne hnb)
  have hw := words_args vs _ hne (fun b hb => (hnb b hb).2)
  have hx : namesL.getD q [] ++ argsT vs ≠ [] := fun e => hne (List.append_eq_nil_iff.mp e).1
  have ho : opL (namesL.getD q [] ++ argsT vs) = if (vs.length : Int) = takesL q ∧ vs.all smallI = true then some (mkO q vs) else none := by
    unfold opL
    rw [hw]
    by_cases hl : (vs.length : Int) = takesL q
    · rw [opW_of hq (by rw [List.length_map]; exact hl), argsL_map]
      by_cases hs : vs.all smallI = true
      · rw [if_pos hs, if_pos ⟨hl, hs⟩]; rfl
      · rw [if_neg hs, if_neg (fun h => hs h.2)]; rfl
    · rw [if_neg (fun h => hl h.1)]
      show (if namesL.idxOf (namesL.getD q []) < 16 ∧ ((vs.map decL).length : Int) = takesL (namesL.idxOf (namesL.getD q [])) then _ else none) = none
      rw [if_neg]
      rintro ⟨-, h⟩
      rw [names_own2 q hq, List.length_map] at h
      exact hl h
  unfold parseL
  rw [show nameT ++ (namesL.getD q [] ++ argsT vs) = [116, 105, 116, 108, 101, 32, 116] ++ 10 :: (namesL.getD q [] ++ argsT vs) from rfl, lines_cons _ (by decide), lines_one (clean_no10 hc), bare_clean hc]
  have hb : bareL [116, 105, 116, 108, 101, 32, 116] = [116, 105, 116, 108, 101, 32, 116] := by decide
  have ht : ttlL [116, 105, 116, 108, 101, 32, 116] = some [116] := by decide +kernel
  rw [hb, pf_ttl (by decide), ht]
  dsimp only
  rw [pf_op hx, ho]
  by_cases h : (vs.length : Int) = takesL q ∧ vs.all smallI = true
  · rw [if_pos h, if_pos h]; rfl
  · rw [if_neg h, if_neg h]
theorem names_short (q : Nat) (vs : List Int) (hb : ∀ v ∈ vs, okI v) (hl : vs.length ≤ 3) : (namesL.getD q [] ++ argsT vs).length ≤ 68 := by
  have h1 := names_len3 q
  have h2 : (argsT vs).length ≤ 21 * vs.length := by
    clear hl
    induction vs with
    | nil => simp [argsT]
    | cons v r ih =>
      have hv := hb v (by simp)
      have hd := decL_len hv.1 hv.2
      have := ih fun x hx => hb x (by simp [hx])
      have e : argsT (v :: r) = 32 :: decL v ++ argsT r := by simp [argsT]
      rw [e, List.length_append]
      simp; omega
  rw [List.length_append]; omega
def tkl : List Int := [0, 2, 2, 3, 3, 3, 3, 3, 3, 1, 2, 2, 2, 2, 2, 1]
theorem tkl_at : ∀ q : Nat, q < 16 → tkl[q]? = some (takesL (q : Int)) := by decide
theorem tk_made (w : World) (t : TypeId) {q : Nat} (hq : q < 16) : (w.alloc (.cells (tkl.map (Value.int .i64)).toArray t)).cell? ⟨w.heap.size, q, none⟩ = some (.int .i64 (takesL q)) := by
  rw [cell_of_row _ _ _ _ _ _ (heap_alloc_new w _), List.getElem?_toArray, List.getElem?_map, tkl_at q hq]; rfl
end Go.Proofs.YtbmgiidecidojaaDoor
