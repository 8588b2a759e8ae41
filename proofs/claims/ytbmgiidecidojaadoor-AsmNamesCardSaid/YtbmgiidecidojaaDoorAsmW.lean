/- The walks of asm.blank, asm.bare, asm.lines. -/
import Derived.Test.YtbmgiidecidojaaDoorAsmP
import Derived.Test.YtbmgiidecidojaaDoorRuneW
import Derived.Deep.DeepCutAuto
import Derived.Deep.CutBlock
namespace Go.Proofs.YtbmgiidecidojaaDoor
open Go.RowKit

theorem blank_is (w : World) (x : Nat) {b : Bool} (h : decide (x = 32 ∨ x = 9) = b) :
    Calls Tryd.prog 36 #[.int .i32 (x : Nat)] w fun e w' => e = .returned (.bool b) ∧ w = w' := by
  subst h
  by_cases h1 : x = 32
  · subst h1
    go_enter Tryd.func36, Tryd.ntmps36
    go_wp2_with fail
    go_ret
    exact ⟨rfl, rfl⟩
  · have b1 : (((x : Nat) : Int) == 32) = false := by rw [beq_eq_false_iff_ne]; omega
    by_cases h2 : x = 9
    · subst h2
      go_enter Tryd.func36, Tryd.ntmps36
      go_wp2_with fail
      go_ret
      exact ⟨rfl, rfl⟩
    · have b2 : (((x : Nat) : Int) == 9) = false := by rw [beq_eq_false_iff_ne]; omega
      have e : decide (x = 32 ∨ x = 9) = false := by rw [decide_eq_false_iff_not]; omega
      go_enter Tryd.func36, Tryd.ntmps36
      go_wp2_with fail
      go_ret
      exact ⟨by rw [e]; rfl, rfl⟩

def skRel (w : World) (l : List UInt8) (s : Value) (w' : World) : Prop := ∃ t, s = .string (bs t) ∧ skipB t = skipB (cutH l) ∧ t.length ≤ l.length ∧ Ext w w'
def enRel2 (w : World) (l : List UInt8) (s : Value) (w' : World) : Prop := ∃ t, s = .string (bs t) ∧ endB t = bareL l ∧ t.length ≤ l.length ∧ Ext w w'
def baRel (w : World) (l : List UInt8) (w' : World) : Prop := ∃ p, w' = w.iter (bs l) p ∧ p ≤ l.length ∧ cutH l = l.take p ++ cutH (l.drop p)
theorem str_last {P : Program} (w : World) (t : TypeId) (ht : P.underlying t = some .string) (l : List UInt8) (h : l ≠ []) :
    (Instr.index t (.string (bs l)) (.int .i64 ((l.length : Int) - 1))).run P w = .ok (.int .u8 (bt l (l.length - 1) : Nat)) w := by
  have h0 := List.length_pos_iff.mpr h
  rw [show ((l.length : Int) - 1) = ((l.length - 1 : Nat) : Int) by omega]
  exact str_at w t ht l _ (by omega)
theorem str_first {P : Program} (w : World) (t : TypeId) (ht : P.underlying t = some .string) (l : List UInt8) (h : l ≠ []) :
    (Instr.index t (.string (bs l)) (.int .i64 0)).run P w = .ok (.int .u8 (bt l 0 : Nat)) w := str_at w t ht l 0 (List.length_pos_iff.mpr h)

set_option maxRecDepth 100000 in
set_option maxHeartbeats 4000000 in
theorem bare_any (w : World) (l : List UInt8) (hl : l.length ≤ 1099511627776) :
    Calls Tryd.prog 34 #[.string (bs l)] w fun e w' => e = .returned (.string (bs (bareL l))) ∧ Ext w w' := by
  go_enter Tryd.func34, Tryd.ntmps34
  go_upto_block 0 with fail
  go_cut [0] (fun s wx => skRel w l s wx)
  case first =>
    go_wp2_with fail
    go_loopw [0] (fun s w' => s = .string (bs l) ∧ baRel w l w') (fun _ w' => l.length - w'.iterPos w.heap.size)
    case atStart => exact ⟨rfl, 0, rfl, Nat.zero_le _, by simp⟩
    case round =>
      obtain ⟨rfl, p, rfl, hp, hc⟩ := hrel
      have Hc := Lib.hid hc
      clear hc
      by_cases hlt : p < l.length
      · have hnx := next_yes w l p hlt
        have hd := dec_at_le hlt
        have hmost := dec_most (l.drop p)
        by_cases h35 : (dec (l.drop p)).1 = 35
        · have Hi := Lib.hid (dec_is (by decide) h35).1
          rw [h35] at hnx
          clear h35
          go_wp2_with fail
          go_meet
          refine ⟨_, rfl, ?_, ?_, Ext.iter _ _⟩
          · have hb := Hi.out
            rw [bt_drop, Nat.add_zero] at hb
            rw [Hc.out, cutH_stop hlt hb]; simp
          · simp; omega
        · have Hi := Lib.hid (dec_isnt (l := l.drop p) (x := 35) (by decide) h35)
          have b1 : (((dec (l.drop p)).1 : Int) == 35) = false := by rw [beq_eq_false_iff_ne]; omega
          have Hd := Lib.hid hd
          clear h35 hd
          go_wp2_with fail
          go_roundw
          case rel => exact ⟨rfl, _, rfl, Hd.out.2, by rw [Hc.out, cutH_go _ Hd.out.2 Hi.out, ← List.append_assoc, ← List.take_add]⟩
          case measure => have := Hd.out; simp; omega
      · obtain rfl : p = l.length := by omega
        have hnx := next_no w l l.length hlt
        go_wp2_with fail
        go_meet
        refine ⟨l, rfl, ?_, Nat.le_refl _, Ext.iter _ _⟩
        rw [Hc.out]; simp [cutH]
  case rest =>
    obtain ⟨t0, rfl, ht0, hl0, e0⟩ := hcut
    have Ht0 := Lib.hid ht0
    clear ht0
    go_upto_block 2 with fail
    go_cut [0] (fun s wx => enRel2 w l s wx)
    case first =>
      go_wp2_with fail
      go_loopw [0] (fun s w' => skRel w l s w') (fun s _ => lenOf s)
      case atStart => exact ⟨t0, rfl, Ht0.out, hl0, e0⟩
      case round =>
        obtain ⟨t, rfl, ht, hlt, he⟩ := hrel
        have Ht := Lib.hid ht
        clear ht
        by_cases hn : t = []
        · subst hn
          go_wp2_with fail
          go_meet
          exact ⟨[], rfl, by unfold bareL; rw [← Ht.out]; rfl, hlt, he⟩
        · have hce : t.isEmpty = false := by cases t <;> simp at hn ⊢
          have hix := fun W => str_first (P := Tryd.prog) W _ Tryd.underlying9 t hn
          have h256 := bt_lt t 0
          have h0 := List.length_pos_iff.mpr hn
          have Hs := Lib.hid (skipB_cons hn)
          by_cases hb : bt t 0 = 32 ∨ bt t 0 = 9
          · have Hb := Lib.hid hb
            clear hb hn
            go_wp2_with fail
            refine (blank_is _ _ (b := true) (by simpa using Hb.out)).mono ?_
            rintro e w1 ⟨rfl, rfl⟩
            go_wp2_with fail
            go_roundw
            case rel => exact ⟨t.drop 1, by simp, by rw [← Ht.out, Hs.out, if_pos Hb.out], by simp; omega, he⟩
            case measure => simp [lenOf, bs_size]; omega
          · have Hb := Lib.hid hb
            clear hb hn
            go_wp2_with fail
            refine (blank_is _ _ (b := false) (by simpa using Hb.out)).mono ?_
            rintro e w1 ⟨rfl, rfl⟩
            go_wp2_with fail
            go_meet
            refine ⟨t, rfl, ?_, hlt, he⟩
            have := Hs.out
            rw [if_neg Hb.out] at this
            unfold bareL; rw [← Ht.out, this]
    case rest =>
      obtain ⟨t1, rfl, ht1, hl1, e1⟩ := hcut
      have Ht1 := Lib.hid ht1
      clear ht1 Ht0 e0 hl0
      go_wp2_with fail
      go_loopw [0] (fun s w' => enRel2 w l s w') (fun s _ => lenOf s)
      case atStart => exact ⟨t1, rfl, Ht1.out, hl1, e1⟩
      case round =>
        obtain ⟨t, rfl, ht, hlt, he⟩ := hrel
        have Ht := Lib.hid ht
        clear ht
        by_cases hn : t = []
        · subst hn
          go_wp2_with fail
          go_ret
          exact ⟨by rw [← Ht.out]; rfl, he⟩
        · have hce : t.isEmpty = false := by cases t <;> simp at hn ⊢
          have hix := fun W => str_last (P := Tryd.prog) W _ Tryd.underlying9 t hn
          have h256 := bt_lt t (t.length - 1)
          have h0 := List.length_pos_iff.mpr hn
          have Hs := Lib.hid (endB_snoc hn)
          by_cases hb : bt t (t.length - 1) = 32 ∨ bt t (t.length - 1) = 9
          · have Hb := Lib.hid hb
            clear hb hn
            go_wp2_with fail
            refine (blank_is _ _ (b := true) (by simpa using Hb.out)).mono ?_
            rintro e w1 ⟨rfl, rfl⟩
            go_wp2_with fail
            go_roundw
            case rel => exact ⟨t.take (t.length - 1), by simp, by rw [← Ht.out, Hs.out, if_pos Hb.out], by simp; omega, he⟩
            case measure => simp [lenOf, bs_size]; omega
          · have Hb := Lib.hid hb
            clear hb hn
            go_wp2_with fail
            refine (blank_is _ _ (b := false) (by simpa using Hb.out)).mono ?_
            rintro e w1 ⟨rfl, rfl⟩
            go_wp2_with fail
            go_ret
            refine ⟨?_, he⟩
            have := Hs.out
            rw [if_neg Hb.out] at this
            rw [← Ht.out, this]; rfl

/-- What lines leaves. -/
def LinesOf (w : World) (l : List UInt8) (r : Ending) (w' : World) : Prop :=
  ∃ B d base, r = .returned (.slice B (linesL l).length d) ∧ w.heap.size ≤ base ∧ Own w' base 9 1 B (linesL l).length d (scs (linesL l)) ∧ Ext w w'
def LnRel (w : World) (l : List UInt8) (b a : Value) (w' : World) : Prop :=
  ∃ (p q : Nat) (ws : List (List UInt8)) (B : Option Addr) (d : Nat), a = .int .i64 (q : Nat) ∧ q ≤ p ∧ p ≤ l.length ∧ b = .slice B ws.length d ∧ Own w' (w.heap.size + 1) 9 1 B ws.length d (scs ws) ∧ Ext w w' ∧
    w'.heap[w.heap.size]? = some (.stringIter (bs l) p) ∧ ws.length ≤ p ∧ linesL l = ws ++ (splitL (l.drop p) ((l.drop q).take (p - q))).map bareL
theorem LnRel.pos_of {w w' : World} {l : List UInt8} {b : Value} {p : Nat} (h : LnRel w l b (.int .i64 ((p : Int) + 1)) w') : p + 1 ≤ w'.iterPos w.heap.size := by
  obtain ⟨p', q, ws, B, d, e, hq, -, -, -, -, hit, -⟩ := h
  have : (p : Int) + 1 = q := by injection e
  simp [World.iterPos, hit]
  omega
theorem ln_next {w wr : World} {l : List UInt8} {p q k : Nat} {ws : List (List UInt8)} {B : Option Addr} {d : Nat} (hqp : q ≤ p) (hp : p + k ≤ l.length) (hk : 1 ≤ k) (ho : Own wr (w.heap.size + 1) 9 1 B ws.length d (scs ws)) (he : Ext w wr)
    (hit : wr.heap[w.heap.size]? = some (.stringIter (bs l) p)) (hws : ws.length ≤ p) (hb : ∀ j, j < k → bt (l.drop p) j ≠ 10) (h : linesL l = ws ++ (splitL (l.drop p) ((l.drop q).take (p - q))).map bareL) :
    LnRel w l (.slice B ws.length d) (.int .i64 (q : Nat)) (wr.iterAt w.heap.size (bs l) (p + k)) :=
  ⟨p + k, q, ws, B, d, rfl, by omega, hp, rfl, ho.iterAt (Nat.lt_succ_self _) _ _, Lib.below_iterAt he (Nat.le_refl _) _ _, Lib.iterAt_heap _ _ _ _ _ hit, by omega, by
    rw [h, split_skip k _ _ (by rw [List.length_drop]; omega) hb, List.drop_drop, cut_more l k hqp]⟩
theorem ln_push {w w1 w' : World} {l : List UInt8} {p q : Nat} {ws : List (List UInt8)} {B B' : Option Addr} {d d' : Nat} (hp : p < l.length) (ho : Own w1 (w.heap.size + 1) 9 1 B ws.length d (scs ws)) (he : Ext w w1)
    (hit : w1.heap[w.heap.size]? = some (.stringIter (bs l) (p + 1))) (hws : ws.length ≤ p) (hb : bt l p = 10) (h : linesL l = ws ++ (splitL (l.drop p) ((l.drop q).take (p - q))).map bareL)
    (ho' : Own w' (w.heap.size + 1) 9 1 B' (ws.length + 1) d' (scs ws ++ [.string (bs (bareL ((l.drop q).take (p - q))))])) (hg' : w1.grownBy w' (blk B)) :
    LnRel w l (.slice B' (ws.length + 1) d') (.int .i64 ((p : Int) + 1)) w' := by
  have hsz : w.heap.size < w1.heap.size := (Array.getElem?_eq_some_iff.1 hit).1
  have hbl : Below (w.heap.size + 1) w1 w' := below_of_grown hg' (by omega) fun k hk => by
    rcases B with _ | ⟨b⟩
    · cases hk
    · cases hk; exact (ho.base_le _ rfl).1
  refine ⟨p + 1, p + 1, ws ++ [bareL ((l.drop q).take (p - q))], B', d', by go_num, Nat.le_refl _, hp, by simp, ?_, ?_, ?_, by simp; omega, ?_⟩
  · rw [scs_append]; simpa [scs] using ho'
  · exact Below.trans he (hbl.mono (by omega))
  · rw [hbl.block _ (by omega)]; exact hit
  · rw [h, split_at hp hb, Nat.sub_self, List.take_zero, List.map_cons]; simp

set_option maxRecDepth 100000 in
set_option maxHeartbeats 1000000 in
theorem lines_any (w : World) (l : List UInt8) (hl : l.length ≤ 1099511627776) :
    Calls Tryd.prog 19 #[.string (bs l)] w (LinesOf w l) := by
  obtain ⟨i, hi, hz0, hz1, hz2⟩ := info_parts info_str
  go_enter Tryd.func19, Tryd.ntmps19
  go_wp2_with fail
  go_loopw [3, 4] (fun b a w' => LnRel w l b a w') (fun _ _ w' => l.length - w'.iterPos w.heap.size)
  case atStart => exact ⟨0, 0, [], none, 0, rfl, Nat.le_refl _, Nat.zero_le _, rfl, Own.nil_ _ _ _ _, Ext.iter _ _, World.iter_heap _ _ _, Nat.zero_le _, rfl⟩
  case round =>
    obtain ⟨p, q, ws, B, d, rfl, hqp, hp, rfl, ho, he, hit, hws, hwl⟩ := hrel
    have hmeas : ∀ p', (wr.iterAt w.heap.size (bs l) p').iterPos w.heap.size = p' := fun p' => by
      simp [World.iterPos, Lib.iterAt_heap _ _ _ _ p' hit]
    have hm0 : wr.iterPos w.heap.size = p := by simp [World.iterPos, hit]
    have hsz : w.heap.size < wr.heap.size := (Array.getElem?_eq_some_iff.1 hit).1
    have Hwl := Lib.hid hwl
    clear hwl
    by_cases hlt : p < l.length
    · have hnx : ∀ ty, (Instr.next (.pointer (some ⟨w.heap.size, 0, none⟩)) true ty).run Tryd.prog wr =
          .ok (.tuple #[.bool true, .int .i64 p, .int .i32 (dec (l.drop p)).1]) (wr.iterAt w.heap.size (bs l) (p + (dec (l.drop p)).2)) := fun ty => by
        rw [Lib.run_next_any_at wr w.heap.size (bs l) p ty hit (by rw [bs_size]; exact hlt), decode_bs]
      have hd := dec_at_le hlt
      have hmost := dec_most (l.drop p)
      by_cases h10 : (dec (l.drop p)).1 = 10
      · obtain ⟨hb, hde⟩ := dec_is (l := l.drop p) (x := 10) (by decide) h10
        rw [hde] at hnx hd
        dsimp only at hnx hd
        rw [bt_drop, Nat.add_zero] at hb
        have Hb := Lib.hid hb
        have ho1 := ho.iterAt (Nat.lt_succ_self w.heap.size) (bs l) (p + 1)
        have he1 := Lib.below_iterAt he (Nat.le_refl _) (bs l) (p + 1)
        have hit1 := Lib.iterAt_heap _ _ _ _ (p + 1) hit
        have hqi : (q : Int) ≤ p := by omega
        have hpl : (p : Int) ≤ l.length := by omega
        clear h10 hb hde hmost
        generalize wr.iterAt w.heap.size (bs l) (p + 1) = W1 at *
        have hsz1 : w.heap.size < W1.heap.size := (Array.getElem?_eq_some_iff.1 hit1).1
        go_wp2_with fail
        refine (bare_any W1 ((l.drop q).take (p - q)) (by simp; omega)).mono ?_
        rintro e w1 ⟨rfl, e1⟩
        have ho2 := ho1.ext e1
        have he2 : Ext w w1 := Ext.trans he1 e1
        have hit2 : w1.heap[w.heap.size]? = some (.stringIter (bs l) (p + 1)) := by rw [e1.block _ hsz1]; exact hit1
        have hsz2 : w.heap.size < w1.heap.size := (Array.getElem?_eq_some_iff.1 hit2).1
        go_wp2_with (at_builtin; refine wpList_append_new _ rfl _ _ 42 rfl (w.heap.size + 1) 9 i (.string ByteArray.empty) 1 16 Tryd.underlying42 hi hz0 hz1 hz2 rfl (by decide) B ws.length d _ rfl ho2 1 _ rfl rfl (by simp [Value.oneCell']) (by unfold maxLen; omega) (by omega) hsz2 ?_; intro B' d' w' ho' hg' hw')
        go_roundw
        case rel => exact ln_push hlt ho2 he2 hit2 hws Hb.out Hwl.out ho' hg'
        case measure => have := (ln_push hlt ho2 he2 hit2 hws Hb.out Hwl.out ho' hg').pos_of; rw [hm0]; omega
      · have Hne := Lib.hid (dec_isnt (l := l.drop p) (x := 10) (by decide) h10)
        have b1 : (((dec (l.drop p)).1 : Int) == 10) = false := by rw [beq_eq_false_iff_ne]; omega
        have Hd := Lib.hid hd
        clear h10 hd
        go_wp2_with fail
        go_roundw
        case rel => exact ln_next hqp Hd.out.2 Hd.out.1 ho he hit hws Hne.out Hwl.out
        case measure => rw [hmeas, hm0]; have := Hd.out; omega
    · obtain rfl : p = l.length := by omega
      have hnx : ∀ ty, (Instr.next (.pointer (some ⟨w.heap.size, 0, none⟩)) true ty).run Tryd.prog wr = .ok (.tuple #[.bool false]) wr := fun ty =>
        Lib.run_next_end_at wr w.heap.size (bs l) l.length ty hit (by rw [bs_size]; exact hlt)
      have hwl := Hwl.out
      rw [List.drop_length] at hwl
      unfold splitL at hwl
      have hcut : (l.drop q).take (l.length - q) = l.drop q := List.take_of_length_le (by rw [List.length_drop]; omega)
      rw [hcut] at hwl
      have Hwl := Lib.hid hwl
      have hqi : (q : Int) ≤ l.length := by omega
      clear hwl hcut
      go_wp2_with fail
      refine (bare_any wr (l.drop q) (by simp; omega)).mono ?_
      rintro e w1 ⟨rfl, e1⟩
      have ho2 := ho.ext e1
      have he2 := he.trans e1
      have hsz2 : w.heap.size < w1.heap.size := Nat.lt_of_lt_of_le hsz e1.size
      go_wp2_with (at_builtin; refine wpList_append_new _ rfl _ _ 42 rfl (w.heap.size + 1) 9 i (.string ByteArray.empty) 1 16 Tryd.underlying42 hi hz0 hz1 hz2 rfl (by decide) B ws.length d _ rfl ho2 1 _ rfl rfl (by simp [Value.oneCell']) (by unfold maxLen; omega) (by omega) hsz2 ?_; intro B' d' w' ho' hg' hw')
      go_ret
      refine ⟨B', d', w.heap.size + 1, by rw [Hwl.out, List.length_append]; rfl, by omega, ?_, Below.trans he2 (below_of_grown hg' (by omega) fun k hk => by
        rcases B with _ | ⟨b⟩
        · cases hk
        · cases hk; exact Nat.le_of_succ_le (ho2.base_le _ rfl).1)⟩
      rw [Hwl.out, scs_append, List.length_append]; exact ho'
end Go.Proofs.YtbmgiidecidojaaDoor
