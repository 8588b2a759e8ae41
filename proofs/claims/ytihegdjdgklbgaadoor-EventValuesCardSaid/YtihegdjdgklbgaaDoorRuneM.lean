/- The walks of the reference's Decimal and Number. -/
import Derived.Test.YtihegdjdgklbgaaDoorRuneQ
namespace Go.Proofs.YtihegdjdgklbgaaDoor
set_option maxRecDepth 100000
open Go.RowKit

def DcRel (n : Int) (w : World) (s m : Value) (w' : World) : Prop :=
  ∃ (k : Int) (t : List UInt8), s = .string (bs t) ∧ m = .int .i64 k ∧ -9223372036854775808 ≤ k ∧ k ≤ 9223372036854775807 ∧ dg0 k.natAbs ++ t = dg0 n.natAbs ∧ t.length ≤ 19 ∧ Ext w w'

theorem dc_next {n k d : Int} {t : List UInt8} (h : dg0 k.natAbs ++ t = dg0 n.natAbs) (hk : k ≠ 0) (h0 : 0 ≤ d) (hd : d.natAbs = k.natAbs % 10) : dg0 (k.tdiv 10).natAbs ++ (UInt8.ofNat (48 + d).toNat :: t) = dg0 n.natAbs := by
  have e1 : (k.tdiv 10).natAbs = k.natAbs / 10 := by rw [Int.natAbs_tdiv]; rfl
  have e2 : (48 + d).toNat = 48 + k.natAbs % 10 := by omega
  rw [← h, dg0_step (k := k.natAbs) (by omega), e1, e2]
  simp
theorem one_byte {w : World} {x : Int} (h0 : 0 ≤ x) (h1 : x < 256) : Rb (w.alloc (.cells #[.int .u8 x] 5)) (some ⟨w.heap.size, 0, none⟩) 1 1 [UInt8.ofNat x.toNat] := by
  refine Rb.of (Rd.made w 5 1 [.int .u8 x] 1 rfl (by decide)) ?_
  have : (UInt8.ofNat x.toNat).toNat = x.toNat := by simp; omega
  simp only [bcs, List.map_cons, List.map_nil, this]
  congr 2; omega

set_option maxRecDepth 100000 in
set_option maxHeartbeats 2000000 in
theorem decimal_any (w : World) (n : Int) (h0 : -9223372036854775808 ≤ n) (h1 : n ≤ 9223372036854775807) :
    Calls Tryd.prog 16 #[.int .i64 n] w fun e w' => e = .returned (.string (bs (decL n))) ∧ Ext w w' := by
  by_cases hz : n = 0
  · subst hz
    go_enter Tryd.func16, Tryd.ntmps16
    go_wp2_with fail
    go_ret
    exact ⟨rfl, Ext.refl _⟩
  have hlen := dg0_len 19 n.natAbs (by omega)
  have bz : (n == 0) = false := by rw [beq_eq_false_iff_ne]; exact hz
  have Hz := Lib.hid hz
  clear hz
  go_enter Tryd.func16, Tryd.ntmps16
  go_wp2_with fail
  go_loopw [3, 4, 5] (fun s m d w' => DcRel n w s m w') (fun _ m _ _ => (intOf m).natAbs)
  case atStart => exact ⟨n, [], rfl, rfl, h0, h1, by simp, by simp, Ext.refl _⟩
  case round =>
    obtain ⟨k, t, rfl, rfl, k0, k1, hdg, ht, he⟩ := hrel
    by_cases hk : k = 0
    · subst hk
      have hd : dg0 n.natAbs = t := by rw [← hdg]; rfl
      have Hd := Lib.hid hd
      clear hd hdg
      have hcat : ((9223372036854775807 : Nat) < 1 + t.length) = False := eq_false (by omega)
      have hdec : decL n = (if n < 0 then [45] else []) ++ t := by
        unfold decL natL
        rw [if_neg (show ¬ n.natAbs = 0 from fun e => Hz.out (Int.natAbs_eq_zero.mp e)), Hd.out]
      have Hdec := Lib.hid hdec
      clear hdec
      by_cases hn : n < 0
      · go_wp2_with fail
        go_ret
        exact ⟨by rw [Hdec.out, if_pos hn]; rfl, he⟩
      · go_wp2_with fail
        go_ret
        exact ⟨by rw [Hdec.out, if_neg (by omega)]; rfl, he⟩
    · have bk : (k != 0) = true := by rw [bne_iff_ne]; exact hk
      have Hdg := Lib.hid hdg
      clear hdg
      have hcat : ((9223372036854775807 : Nat) < 1 + t.length) = False := eq_false (by omega)
      obtain ⟨r, hr⟩ : ∃ r, k.tmod 10 = r := ⟨_, rfl⟩
      obtain ⟨q, hq⟩ : ∃ q, k.tdiv 10 = q := ⟨_, rfl⟩
      have hqa : q.natAbs = k.natAbs / 10 := by rw [← hq, Int.natAbs_tdiv]; rfl
      have hra : r.natAbs = k.natAbs % 10 := by rw [← hr, Int.natAbs_tmod]; rfl
      have hlt : t.length ≤ 18 := by
        have h1 := congrArg List.length Hdg.out
        have h2 := List.length_pos_iff.mpr (dg0_first k.natAbs (by omega)).1
        rw [List.length_append] at h1
        omega
      have hq0 : -9223372036854775808 ≤ q ∧ q ≤ 9223372036854775807 := by omega
      have hrb : -9 ≤ r ∧ r ≤ 9 := by omega
      have Hqa := Lib.hid hqa
      have Hra := Lib.hid hra
      have Hr := Lib.hid hr
      have Hq := Lib.hid hq
      have Hk := Lib.hid hk
      by_cases hs : r < 0
      · have hcv := run_string_of (P := Tryd.prog) _ 49 9 5 Tryd.underlying49 Tryd.underlying5 Tryd.underlying9 _ _ _ _ (one_byte (w := wr) (x := 48 + -r) (by omega) (by omega))
        clear hqa hra hk
        go_wp2_with fail
        go_roundw
        case rel => exact ⟨q, _, rfl, rfl, hq0.1, hq0.2, by rw [← Hq.out]; exact dc_next (d := -r) Hdg.out Hk.out (by omega) (by have := Hra.out; omega), by simp; omega, he.trans (Ext.alloc _ _)⟩
        case measure => have h1 := Hqa.out; have h2 := Hk.out; simp only [intOf]; omega
      · have hcv := run_string_of (P := Tryd.prog) _ 49 9 5 Tryd.underlying49 Tryd.underlying5 Tryd.underlying9 _ _ _ _ (one_byte (w := wr) (x := 48 + r) (by omega) (by omega))
        clear hqa hra hk
        go_wp2_with fail
        go_roundw
        case rel => exact ⟨q, _, rfl, rfl, hq0.1, hq0.2, by rw [← Hq.out]; exact dc_next (d := r) Hdg.out Hk.out (by omega) (by have := Hra.out; omega), by simp; omega, he.trans (Ext.alloc _ _)⟩
        case measure => have h1 := Hqa.out; have h2 := Hk.out; simp only [intOf]; omega

end Go.Proofs.YtihegdjdgklbgaaDoor
