/- The walks of Words: runes' and the reference's. -/
import Derived.Test.YtbmgiidecidojaaDoorRuneR
import Derived.Lib.OthersKept
namespace Go.Proofs.YtbmgiidecidojaaDoor
open Go.RowKit

def blank (b : UInt8) : Bool := b.toNat == 32 || b.toNat == 9
def wgo : List UInt8 → List UInt8 → List (List UInt8)
  | [], cur => if cur = [] then [] else [cur]
  | b :: t, cur => if blank b then (if cur = [] then wgo t [] else cur :: wgo t []) else wgo t (cur ++ [b])
/-- A text's words. -/
def wordsL (l : List UInt8) : List (List UInt8) := wgo l []

theorem wgo_skip : ∀ (k : Nat) (t cur : List UInt8), k ≤ t.length → (∀ b ∈ t.take k, blank b = false) → wgo t cur = wgo (t.drop k) (cur ++ t.take k)
  | 0, t, cur, _, _ => by simp
  | k + 1, [], cur, h, _ => by simp at h
  | k + 1, b :: t, cur, h, hb => by
    have h1 : blank b = false := hb b (by simp)
    rw [wgo, h1, if_neg (by simp), wgo_skip k t _ (by simpa using h) (fun x hx => hb x (by simp [hx]))]
    simp
theorem cut_more (l : List UInt8) {a p : Nat} (k : Nat) (h : a ≤ p) : (l.drop a).take (p - a) ++ (l.drop p).take k = (l.drop a).take (p + k - a) := by
  rw [show p + k - a = (p - a) + k by omega, List.take_add, List.drop_drop, show a + (p - a) = p by omega]
theorem cut_nil {l : List UInt8} {a p : Nat} (h : p ≤ l.length) : (l.drop a).take (p - a) = [] ↔ p ≤ a := by
  rw [← List.length_eq_zero_iff, List.length_take, List.length_drop]; omega

/-- Words as cells. -/
def scs (l : List (List UInt8)) : List Value := l.map fun x => .string (bs x)
theorem scs_length (l) : (scs l).length = l.length := List.length_map _
theorem scs_append (a b) : scs (a ++ b) = scs a ++ scs b := List.map_append
theorem info_str : (Tryd.prog.info? 9).map (fun i => (i.zero, i.size, i.bytes)) = some (some (.string ByteArray.empty), 1, 16) := by kernel_rfl

@[go_sem 900] theorem bs_extract2 (l : List UInt8) (a b : Nat) : (bs l).extract a b = bs ((l.drop a).take (b - a)) := by
  have h : ((bs l).extract a b).data.toList = (l.drop a).take (b - a) := by
    rw [ByteArray.data_extract, Array.toList_extract, bs_data, List.extract_eq_take_drop]
  rw [← bs_of ((bs l).extract a b), h]

/-- What Words leaves. -/
def WordsOf (w : World) (l : List UInt8) (r : Ending) (w' : World) : Prop :=
  ∃ B d base, r = .returned (.slice B (wordsL l).length d) ∧ w.heap.size ≤ base ∧ Own w' base 9 1 B (wordsL l).length d (scs (wordsL l)) ∧ Ext w w'

theorem Own.iterAt {w : World} {base : Nat} {e : TypeId} {B : Option Addr} {n d : Nat} {xs : List Value} (h : Own w base e 1 B n d xs) {k : Nat} (hk : k < base) (s : ByteArray) (pos : Nat) : Own (w.iterAt k s pos) base e 1 B n d xs := by
  refine ⟨h.1, ?_⟩
  rcases h.2 with hn | ⟨g, cap, cur, hv, hbg, hg, rest⟩
  · exact .inl hn
  · exact .inr ⟨g, cap, cur, hv, hbg, (Lib.iterAt_other w k g s pos (by omega)).trans hg, rest⟩

def WdRel (w : World) (l : List UInt8) (b a : Value) (w' : World) : Prop :=
  ∃ (p q : Nat) (ws : List (List UInt8)) (B : Option Addr) (d : Nat), a = .int .i64 (q : Nat) ∧ q ≤ p ∧ p ≤ l.length ∧ b = .slice B ws.length d ∧ Own w' (w.heap.size + 1) 9 1 B ws.length d (scs ws) ∧ Ext w w' ∧
    w'.heap[w.heap.size]? = some (.stringIter (bs l) p) ∧ ws.length ≤ p ∧ wordsL l = ws ++ wgo (l.drop p) ((l.drop q).take (p - q))

theorem WdRel.pos_of {w w' : World} {l : List UInt8} {b : Value} {p : Nat} (h : WdRel w l b (.int .i64 ((p : Int) + 1)) w') : p + 1 ≤ w'.iterPos w.heap.size := by
  obtain ⟨p', q, ws, B, d, e, hq, -, -, -, -, hit, -⟩ := h
  have : (p : Int) + 1 = q := by injection e
  simp [World.iterPos, hit]
  omega
theorem wd_blank {l : List UInt8} {p q : Nat} {ws : List (List UInt8)} (hp : p < l.length) (hb : bt (l.drop p) 0 = 32 ∨ bt (l.drop p) 0 = 9) (h : wordsL l = ws ++ wgo (l.drop p) ((l.drop q).take (p - q))) :
    wordsL l = ws ++ (if q < p then [(l.drop q).take (p - q)] else []) ++ wgo (l.drop (p + 1)) [] := by
  rw [h, List.drop_eq_getElem_cons hp, wgo]
  have e : blank l[p] = true := by
    rw [bt_drop] at hb
    unfold bt at hb
    rw [List.getD_eq_getElem?_getD, Nat.add_zero, List.getElem?_eq_getElem hp] at hb
    simpa [blank] using hb
  rw [e, if_pos rfl]
  by_cases hq : q < p
  · rw [if_neg (by rw [cut_nil (by omega)]; omega), if_pos hq]; simp
  · rw [if_pos (by rw [cut_nil (by omega)]; omega), if_neg hq]; simp
theorem wd_rest {l : List UInt8} {p q k : Nat} {ws : List (List UInt8)} (hqp : q ≤ p) (hp : p + k ≤ l.length) (hb : ∀ j, j < k → bt (l.drop p) j ≠ 32 ∧ bt (l.drop p) j ≠ 9) (h : wordsL l = ws ++ wgo (l.drop p) ((l.drop q).take (p - q))) :
    wordsL l = ws ++ wgo (l.drop (p + k)) ((l.drop q).take (p + k - q)) := by
  rw [h, wgo_skip k _ _ (by rw [List.length_drop]; omega), List.drop_drop, cut_more l k hqp]
  intro b hbm
  obtain ⟨j, hj, rfl⟩ := List.getElem_of_mem hbm
  rw [List.length_take, List.length_drop] at hj
  have := hb j (by omega)
  unfold bt at this
  rw [List.getD_eq_getElem?_getD, List.getElem?_eq_getElem (by rw [List.length_drop]; omega)] at this
  simp only [Option.getD_some] at this
  rw [List.getElem_take]
  simp only [blank, Bool.or_eq_false_iff, beq_eq_false_iff_ne]
  exact this

theorem wd_next {w wr : World} {l : List UInt8} {p q k : Nat} {ws : List (List UInt8)} {B : Option Addr} {d : Nat} (hqp : q ≤ p) (hp : p + k ≤ l.length) (hk : 1 ≤ k) (ho : Own wr (w.heap.size + 1) 9 1 B ws.length d (scs ws)) (he : Ext w wr)
    (hit : wr.heap[w.heap.size]? = some (.stringIter (bs l) p)) (hws : ws.length ≤ p) (hb : ∀ j, j < k → bt (l.drop p) j ≠ 32 ∧ bt (l.drop p) j ≠ 9) (h : wordsL l = ws ++ wgo (l.drop p) ((l.drop q).take (p - q))) :
    WdRel w l (.slice B ws.length d) (.int .i64 (q : Nat)) (wr.iterAt w.heap.size (bs l) (p + k)) :=
  ⟨p + k, q, ws, B, d, rfl, by omega, hp, rfl, ho.iterAt (Nat.lt_succ_self _) _ _, Lib.below_iterAt he (Nat.le_refl _) _ _, Lib.iterAt_heap _ _ _ _ _ hit, by omega, wd_rest hqp hp hb h⟩

theorem wd_step {w wr : World} {l : List UInt8} {p q : Nat} {ws : List (List UInt8)} {B : Option Addr} {d : Nat} (hp : p < l.length) (ho : Own wr (w.heap.size + 1) 9 1 B ws.length d (scs ws)) (he : Ext w wr)
    (hit : wr.heap[w.heap.size]? = some (.stringIter (bs l) p)) (hws : ws.length ≤ p) (hq : ¬ q < p) (hb : bt (l.drop p) 0 = 32 ∨ bt (l.drop p) 0 = 9) (h : wordsL l = ws ++ wgo (l.drop p) ((l.drop q).take (p - q))) :
    WdRel w l (.slice B ws.length d) (.int .i64 ((p : Int) + 1)) (wr.iterAt w.heap.size (bs l) (p + 1)) := by
  have h1 := wd_blank hp hb h
  rw [if_neg hq, List.append_nil] at h1
  exact ⟨p + 1, p + 1, ws, B, d, by go_num, Nat.le_refl _, hp, rfl, ho.iterAt (Nat.lt_succ_self _) _ _, Lib.below_iterAt he (Nat.le_refl _) _ _, Lib.iterAt_heap _ _ _ _ _ hit, by omega, by rw [Nat.sub_self]; exact h1⟩
theorem wd_push {w wr w' : World} {l : List UInt8} {p q : Nat} {ws : List (List UInt8)} {B B' : Option Addr} {d d' : Nat} (hp : p < l.length) (ho : Own wr (w.heap.size + 1) 9 1 B ws.length d (scs ws)) (he : Ext w wr)
    (hit : wr.heap[w.heap.size]? = some (.stringIter (bs l) p)) (hws : ws.length ≤ p) (hq : q < p) (hb : bt (l.drop p) 0 = 32 ∨ bt (l.drop p) 0 = 9) (h : wordsL l = ws ++ wgo (l.drop p) ((l.drop q).take (p - q)))
    (ho' : Own w' (w.heap.size + 1) 9 1 B' (ws.length + 1) d' (scs ws ++ [.string (bs ((l.drop q).take (p - q)))])) (hg' : (wr.iterAt w.heap.size (bs l) (p + 1)).grownBy w' (blk B)) :
    WdRel w l (.slice B' (ws.length + 1) d') (.int .i64 ((p : Int) + 1)) w' := by
  have h1 := wd_blank hp hb h
  rw [if_pos hq] at h1
  have hsz : w.heap.size < wr.heap.size := (Array.getElem?_eq_some_iff.1 hit).1
  have hbl : Below (w.heap.size + 1) (wr.iterAt w.heap.size (bs l) (p + 1)) w' := below_of_grown hg' (by rw [Lib.iterAt_size]; omega) fun k hk => by
    rcases B with _ | ⟨b⟩
    · cases hk
    · cases hk; exact (ho.base_le _ rfl).1
  refine ⟨p + 1, p + 1, ws ++ [(l.drop q).take (p - q)], B', d', by go_num, Nat.le_refl _, hp, by simp, ?_, ?_, ?_, by simp; omega, by rw [Nat.sub_self]; exact h1⟩
  · rw [scs_append]; simpa [scs] using ho'
  · exact Below.trans (Lib.below_iterAt he (Nat.le_refl _) _ _) (hbl.mono (by omega))
  · rw [hbl.block _ (by omega)]; exact Lib.iterAt_heap _ _ _ _ _ hit

set_option maxRecDepth 100000 in
set_option maxHeartbeats 1000000 in
theorem words_any (w : World) (l : List UInt8) (hl : l.length ≤ 1099511627776) :
    Calls Tryd.prog 38 #[.string (bs l)] w (WordsOf w l) := by
  obtain ⟨i, hi, hz0, hz1, hz2⟩ := info_parts info_str
  go_enter Tryd.func38, Tryd.ntmps38
  go_wp2_with fail
  go_loopw [3, 4] (fun b a w' => WdRel w l b a w') (fun _ _ w' => l.length - w'.iterPos w.heap.size)
  case atStart => exact ⟨0, 0, [], none, 0, rfl, Nat.le_refl _, Nat.zero_le _, rfl, Own.nil_ _ _ _ _, Ext.iter _ _, World.iter_heap _ _ _, Nat.zero_le _, rfl⟩
  case round =>
    obtain ⟨p, q, ws, B, d, rfl, hqp, hp, rfl, ho, he, hit, hws, hwl⟩ := hrel
    have hmeas : ∀ p', (wr.iterAt w.heap.size (bs l) p').iterPos w.heap.size = p' := fun p' => by
      simp [World.iterPos, Lib.iterAt_heap _ _ _ _ p' hit]
    have hm0 : wr.iterPos w.heap.size = p := by simp [World.iterPos, hit]
    have hsz : w.heap.size < wr.heap.size := (Array.getElem?_eq_some_iff.1 hit).1
    by_cases hlt : p < l.length
    · have hnx : ∀ ty, (Instr.next (.pointer (some ⟨w.heap.size, 0, none⟩)) true ty).run Tryd.prog wr =
          .ok (.tuple #[.bool true, .int .i64 p, .int .i32 (dec (l.drop p)).1]) (wr.iterAt w.heap.size (bs l) (p + (dec (l.drop p)).2)) := fun ty => by
        rw [Lib.run_next_any_at wr w.heap.size (bs l) p ty hit (by rw [bs_size]; exact hlt), decode_bs]
      have hd := dec_at_le hlt
      have hmost := dec_most (l.drop p)
      have Hwl := Lib.hid hwl
      clear hwl
      by_cases hb : bt (l.drop p) 0 < 128
      · rw [dec_low hb] at hnx hd
        dsimp only at hnx hd
        by_cases h32 : bt (l.drop p) 0 = 32
        · have hbk : bt (l.drop p) 0 = 32 ∨ bt (l.drop p) 0 = 9 := by omega
          rw [h32] at hnx
          have Hbk := Lib.hid hbk
          clear hbk h32 hb hd hmost
          by_cases hq : q < p
          · go_wp2_with (at_builtin; refine wpList_append_new _ rfl _ _ 42 rfl (w.heap.size + 1) 9 i (.string ByteArray.empty) 1 16 Tryd.underlying42 hi hz0 hz1 hz2 rfl (by decide) B ws.length d _ rfl (ho.iterAt (Nat.lt_succ_self _) _ _) 1 _ rfl rfl (by simp [Value.oneCell']) (by unfold maxLen; omega) (by omega) (by rw [Lib.iterAt_size]; exact hsz) ?_; intro B' d' w' ho' hg' hw')
            go_roundw
            case rel => exact wd_push hlt ho he hit hws hq Hbk.out Hwl.out ho' hg'
            case measure => have := (wd_push hlt ho he hit hws hq Hbk.out Hwl.out ho' hg').pos_of; rw [hm0]; omega
          · go_wp2_with fail
            go_roundw
            case rel => exact wd_step hlt ho he hit hws hq Hbk.out Hwl.out
            case measure => rw [hmeas, hm0]; omega
        by_cases h9 : bt (l.drop p) 0 = 9
        · have hbk : bt (l.drop p) 0 = 32 ∨ bt (l.drop p) 0 = 9 := by omega
          rw [h9] at hnx
          have Hbk := Lib.hid hbk
          clear hbk h9 hb hd hmost
          by_cases hq : q < p
          · go_wp2_with (at_builtin; refine wpList_append_new _ rfl _ _ 42 rfl (w.heap.size + 1) 9 i (.string ByteArray.empty) 1 16 Tryd.underlying42 hi hz0 hz1 hz2 rfl (by decide) B ws.length d _ rfl (ho.iterAt (Nat.lt_succ_self _) _ _) 1 _ rfl rfl (by simp [Value.oneCell']) (by unfold maxLen; omega) (by omega) (by rw [Lib.iterAt_size]; exact hsz) ?_; intro B' d' w' ho' hg' hw')
            go_roundw
            case rel => exact wd_push hlt ho he hit hws hq Hbk.out Hwl.out ho' hg'
            case measure => have := (wd_push hlt ho he hit hws hq Hbk.out Hwl.out ho' hg').pos_of; rw [hm0]; omega
          · go_wp2_with fail
            go_roundw
            case rel => exact wd_step hlt ho he hit hws hq Hbk.out Hwl.out
            case measure => rw [hmeas, hm0]; omega
        · have hne : ∀ j, j < 1 → bt (l.drop p) j ≠ 32 ∧ bt (l.drop p) j ≠ 9 := fun j hj => by rcases (show j = 0 by omega) with rfl; exact ⟨h32, h9⟩
          have b1 : (((bt (l.drop p) 0 : Nat) : Int) != 32) = true := by rw [bne_iff_ne]; omega
          have b2 : (((bt (l.drop p) 0 : Nat) : Int) != 9) = true := by rw [bne_iff_ne]; omega
          have Hne := Lib.hid hne
          clear hne h32 h9 hb hmost hd
          generalize bt (l.drop p) 0 = r at *
          go_wp2_with fail
          go_roundw
          case rel => exact wd_next hqp hlt (Nat.le_refl _) ho he hit hws Hne.out Hwl.out
          case measure => rw [hmeas, hm0]; omega
      · have hh := dec_high (l := l.drop p) (by omega)
        have hne : ∀ j, j < (dec (l.drop p)).2 → bt (l.drop p) j ≠ 32 ∧ bt (l.drop p) j ≠ 9 := fun j hj => by have := hh.2 j hj; omega
        have hh1 := hh.1
        have Hne := Lib.hid hne
        have Hd := Lib.hid hd
        have b1 : (((dec (l.drop p)).1 : Int) != 32) = true := by rw [bne_iff_ne]; omega
        have b2 : (((dec (l.drop p)).1 : Int) != 9) = true := by rw [bne_iff_ne]; omega
        clear hh hne hb hmost hd hh1
        go_wp2_with fail
        go_roundw
        case rel => exact wd_next hqp Hd.out.2 Hd.out.1 ho he hit hws Hne.out Hwl.out
        case measure => rw [hmeas, hm0]; have := Hd.out; omega
    · obtain rfl : p = l.length := by omega
      have hnx : ∀ ty, (Instr.next (.pointer (some ⟨w.heap.size, 0, none⟩)) true ty).run Tryd.prog wr = .ok (.tuple #[.bool false]) wr := fun ty =>
        Lib.run_next_end_at wr w.heap.size (bs l) l.length ty hit (by rw [bs_size]; exact hlt)
      rw [List.drop_length] at hwl
      unfold wgo at hwl
      have hcut : (l.drop q).take (l.length - q) = l.drop q := List.take_of_length_le (by rw [List.length_drop]; omega)
      by_cases hq : q < l.length
      · rw [if_neg (by rw [cut_nil (Nat.le_refl _)]; omega), hcut] at hwl
        have Hwl := Lib.hid hwl
        clear hwl hcut
        go_wp2_with (at_builtin; refine wpList_append_new _ rfl _ _ 42 rfl (w.heap.size + 1) 9 i (.string ByteArray.empty) 1 16 Tryd.underlying42 hi hz0 hz1 hz2 rfl (by decide) B ws.length d _ rfl ho 1 _ rfl rfl (by simp [Value.oneCell']) (by unfold maxLen; omega) (by omega) hsz ?_; intro B' d' w' ho' hg' hw')
        go_ret
        refine ⟨B', d', w.heap.size + 1, by rw [Hwl.out, List.length_append]; rfl, by omega, ?_, Below.trans he (below_of_grown hg' (by omega) fun k hk => by
          rcases B with _ | ⟨b⟩
          · cases hk
          · cases hk; exact Nat.le_of_succ_le (ho.base_le _ rfl).1)⟩
        rw [Hwl.out, scs_append, List.length_append]; exact ho'
      · rw [if_pos (by rw [cut_nil (Nat.le_refl _)]; omega), List.append_nil] at hwl
        have Hwl := Lib.hid hwl
        clear hwl hcut
        go_wp2_with fail
        go_ret
        exact ⟨B, d, w.heap.size + 1, by rw [Hwl.out]; rfl, by omega, by rw [Hwl.out]; exact ho, he⟩
end Go.Proofs.YtbmgiidecidojaaDoor
