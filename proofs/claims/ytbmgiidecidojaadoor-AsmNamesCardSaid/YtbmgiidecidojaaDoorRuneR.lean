/- The walk of the reference's Runes. -/
import Derived.Test.YtbmgiidecidojaaDoorRuneD
namespace Go.Proofs.YtbmgiidecidojaaDoor
open Go.RowKit

theorem info_i32 : (Tryd.prog.info? 21).map (fun i => (i.zero, i.size, i.bytes)) = some (some (.int .i32 0), 1, 4) := by kernel_rfl

@[go_sem] theorem bs_extract (l : List UInt8) (a : Nat) : (bs l).extract a l.length = bs (l.drop a) := by
  have h : ((bs l).extract a l.length).data.toList = l.drop a := by
    rw [ByteArray.data_extract, Array.toList_extract, bs_data, List.extract_eq_take_drop]
    exact List.take_of_length_le (by rw [List.length_drop]; omega)
  rw [← bs_of ((bs l).extract a l.length), h]

/-- Runes as cells. -/
def rcs (l : List (Nat × Nat)) : List Value := l.map fun x => .int .i32 (x.1 : Nat)
theorem rcs_length (l) : (rcs l).length = l.length := List.length_map _
theorem rcs_append (a b) : rcs (a ++ b) = rcs a ++ rcs b := List.map_append

/-- What Runes leaves. -/
def RunesOf (w : World) (l : List UInt8) (r : Ending) (w' : World) : Prop :=
  ∃ B d, r = .returned (.tuple #[.slice B (rs l).length d, .bool (goodL l)]) ∧ Own w' w.heap.size 21 1 B (rs l).length d (rcs (rs l)) ∧ Ext w w'

def RunRel (w : World) (l : List UInt8) (s b g : Value) (w' : World) : Prop :=
  ∃ (t : List UInt8) (done : List (Nat × Nat)) (B : Option Addr) (d : Nat), s = .string (bs t) ∧ b = .slice B done.length d ∧ Own w' w.heap.size 21 1 B done.length d (rcs done) ∧ Ext w w' ∧
    rs l = done ++ rs t ∧ g = .bool (done.all wellR) ∧ done.length + t.length ≤ l.length

def lenOf (v : Value) : Nat := match v with | .string s => s.size | _ => 0

theorem run_again {w wr w' : World} {l t : List UInt8} {done : List (Nat × Nat)} {B B' : Option Addr} {d d' : Nat} (ho : Own wr w.heap.size 21 1 B done.length d (rcs done)) (he : Ext w wr) (hlen : done.length + t.length ≤ l.length) (h0 : 0 < t.length)
    (hcons : rs t = dec t :: rs (t.drop (dec t).2)) (hr : rs l = done ++ rs t) (ho' : Own w' w.heap.size 21 1 B' (done.length + 1) d' (rcs done ++ [.int .i32 ((dec t).1 : Nat)])) (hg' : wr.grownBy w' (blk B)) (q : Bool) (hq : (done.all wellR && wellR (dec t)) = q) :
    RunRel w l (.string (bs (t.drop (dec t).2))) (.slice B' (done.length + 1) d') (.bool q) w' := by
  have h1 := (dec_pos t).1
  have h2 := dec_le h0
  refine ⟨_, done ++ [dec t], B', d', rfl, by simp, ?_, ?_, ?_, ?_, ?_⟩
  · rw [rcs_append]; simpa [rcs] using ho'
  · exact Below.trans he (below_of_grown hg' he.size fun k hk => by
      rcases B with _ | ⟨b⟩
      · cases hk
      · cases hk; exact (ho.base_le _ rfl).1)
  · rw [hr, hcons]; simp
  · rw [← hq]; simp
  · rw [List.length_append, List.length_drop]; simp; omega

set_option maxRecDepth 100000 in
set_option maxHeartbeats 1000000 in
theorem runes_any (w : World) (l : List UInt8) (hl : l.length ≤ 1099511627776) :
    Calls Tryd.prog 41 #[.string (bs l)] w (RunesOf w l) := by
  obtain ⟨i, hi, hz0, hz1, hz2⟩ := info_parts info_i32
  go_enter Tryd.func41, Tryd.ntmps41
  go_wp2_with fail
  go_loopw [0, 4, 5] (fun s b g w' => RunRel w l s b g w') (fun s _ _ _ => lenOf s)
  case atStart => exact ⟨l, [], none, 0, rfl, rfl, Own.nil_ _ _ _ _, Ext.refl _, rfl, rfl, by simp⟩
  case round =>
    obtain ⟨t, done, B, d, rfl, rfl, ho, he, hr, rfl, hlen⟩ := hrel
    by_cases ht : t = []
    · subst ht
      go_wp2_with fail
      go_ret2
      rw [rs_nil, List.append_nil] at hr
      subst hr
      exact ⟨_, _, rfl, ho, he⟩
    · have h0 : 0 < t.length := List.length_pos_iff.mpr ht
      have hp := (dec_pos t).1
      have hd := dec_le h0
      have hmost := dec_most t
      have hcons := Lib.hid (rs_cons ht)
      have Hr := Lib.hid hr
      clear hr
      go_wp2_with fail
      refine (decode_any _ t (by omega) h0).mono ?_
      rintro e w1 ⟨rfl, rfl⟩
      cases hall : done.all wellR
      · go_wp2_with (at_builtin; refine wpList_append_new _ rfl _ _ 63 rfl w.heap.size 21 i (.int .i32 0) 1 4 Tryd.underlying63 hi hz0 hz1 hz2 rfl (by decide) B done.length d _ rfl ho 1 _ rfl rfl (by simp [Value.oneCell']) (by unfold maxLen; omega) (by omega) he.size ?_; intro B' d' w' ho' hg' hw')
        go_roundw
        case rel => exact run_again ho he hlen h0 hcons.out Hr.out ho' hg' false (by rw [hall]; rfl)
        case measure => simp [lenOf, bs_size]; omega
      · by_cases h1 : (dec t).1 = 65533
        · by_cases h2 : (dec t).2 = 3
          · have hq : wellR (dec t) = true := by simp [wellR, h1, h2]
            go_wp2_with (at_builtin; refine wpList_append_new _ rfl _ _ 63 rfl w.heap.size 21 i (.int .i32 0) 1 4 Tryd.underlying63 hi hz0 hz1 hz2 rfl (by decide) B done.length d _ rfl ho 1 _ rfl rfl (by simp [Value.oneCell']) (by unfold maxLen; omega) (by omega) he.size ?_; intro B' d' w' ho' hg' hw')
            go_roundw
            case rel => rw [← h2]; exact run_again ho he hlen h0 hcons.out Hr.out (by rw [h1]; exact ho') hg' true (by rw [hall, hq]; rfl)
            case measure => simp [lenOf, bs_size]; omega
          · have hq : wellR (dec t) = false := by simp [wellR, h1, h2]
            have hb : (((dec t).2 : Int) == 3) = false := by rw [beq_eq_false_iff_ne]; omega
            go_wp2_with (at_builtin; refine wpList_append_new _ rfl _ _ 63 rfl w.heap.size 21 i (.int .i32 0) 1 4 Tryd.underlying63 hi hz0 hz1 hz2 rfl (by decide) B done.length d _ rfl ho 1 _ rfl rfl (by simp [Value.oneCell']) (by unfold maxLen; omega) (by omega) he.size ?_; intro B' d' w' ho' hg' hw')
            go_roundw
            case rel => exact run_again ho he hlen h0 hcons.out Hr.out (by rw [h1]; exact ho') hg' false (by rw [hall, hq]; rfl)
            case measure => simp [lenOf, bs_size]; omega
        · have hq : wellR (dec t) = true := by simp [wellR, h1]
          go_wp2_with (at_builtin; refine wpList_append_new _ rfl _ _ 63 rfl w.heap.size 21 i (.int .i32 0) 1 4 Tryd.underlying63 hi hz0 hz1 hz2 rfl (by decide) B done.length d _ rfl ho 1 _ rfl rfl (by simp [Value.oneCell']) (by unfold maxLen; omega) (by omega) he.size ?_; intro B' d' w' ho' hg' hw')
          go_roundw
          case rel => exact run_again ho he hlen h0 hcons.out Hr.out ho' hg' true (by rw [hall, hq]; rfl)
          case measure => simp [lenOf, bs_size]; omega
end Go.Proofs.YtbmgiidecidojaaDoor
