/- The walk of the law CodeCut. -/
import Derived.Test.YtehelhennbcboaaCodL2
namespace Go.Proofs.Ytehelhennbcboaa
open Go.RowKit

theorem encB_most {t : List UInt8} {l : List OpT} (hf : formL t l = true) : (encB t l).length ≤ 2660 := by
  obtain ⟨_, h2, h3⟩ := form_lens hf
  have h := encP_len h3 h2 l.length
  have e : encP t l l.length = encB t l := by unfold encP encB; rw [List.take_length]
  rw [e] at h
  exact h

set_option maxRecDepth 100000 in
set_option maxHeartbeats 4000000 in
theorem cut_walk (w : World) (t : List UInt8) (A : Option Addr) (n c : Nat) (l : List OpT) (ht : t.length ≤ maxLen) (hl : Ro w A n c l) (_hok : ∀ o ∈ l, okO o) (x : Int) (_x0 : -9223372036854775808 ≤ x) (_x1 : x ≤ 9223372036854775807)
    (A' : Option Addr) (m' c' : Nat) (more : List UInt8) (hr : Rb w A' m' c' more) (hreach : c' ≤ 140737488351232) :
    Calls Try.prog 12 #[pAgg t A n c, .int .i64 x, .slice A' m' c'] w (Yes w) := by
  clear _x0 _x1
  have hmx := hr.max
  have hmm := hr.len
  subst hmm
  have hcut := fun W => pcut_any W t A n c 30 ht hl.max
  have hl' := hl.min_ 30
  have htl : (t.take 40).length ≤ 1099511627776 := by rw [List.length_take]; omega
  obtain ⟨i0, hi, hz0, hz1, hz2⟩ := info_parts info_u8
  unfold pAgg at hcut ⊢
  have Hcut := Lib.hid hcut
  clear hcut
  generalize t.take 40 = t' at *
  generalize l.take 30 = l' at *
  generalize min n 30 = n' at *
  go_enter Try.func12, Try.ntmps12
  go_wp2_with fail
  refine (begun5_any _).mono ?_
  rintro e w1 ⟨rfl, e1⟩
  have pb := (PBox.new w 24 t A n c rfl).ext e1
  have x1 := (Ext.alloc w _).trans e1
  clear e1
  obtain ⟨p0, p1, p2, p3⟩ := id pb
  go_wp2_with fail
  refine (Hcut.out _).mono ?_
  rintro e w2 ⟨rfl, e2⟩
  have pb2 := pb.ext e2
  have x2 := x1.trans e2
  clear e2 p0 p1 p2 p3 pb x1
  obtain ⟨p0, p1, p2, p3⟩ := id pb2
  go_wp2_with fail
  generalize hW0 : World.setCell (World.setCell w2 _ _) _ _ = W0
  have x0 : Ext w W0 := by subst hW0; exact (x2.setCell (Nat.le_refl _) _).setCell (Nat.le_refl _) _
  clear hW0 p0 p1 p2 p3 pb2 x2
  cases hf : formL t' l'
  · have henc := rencode_no W0 t' A n' c l' htl (hl'.ext x0) hf
    unfold pAgg at henc
    have Henc := Lib.hid henc
    clear henc hf
    refine Calls.mono Henc.out ?_
    rintro e w3 ⟨rfl, e3⟩
    go_wp2_with fail
    go_ret
    exact ⟨rfl, x0.trans e3⟩
  have henc := rencode_yes W0 t' A n' c l' (hl'.ext x0) hf
  have hmost := encB_most hf
  have hpos := encB_pos t' l'
  unfold pAgg at henc
  have Henc := Lib.hid henc
  have Hf := Lib.hid hf
  clear henc hf
  refine Calls.mono Henc.out ?_
  rintro e w3 ⟨g, m, d, rfl, ho, hm, e3⟩
  have x3 := x0.trans e3
  have hbz : ((m : Int) == 0) = false := by rw [beq_eq_false_iff_ne]; omega
  have Hm := Lib.hid hm
  have hm0 : 0 < m := by omega
  have hm1 : m ≤ 2660 := by omega
  clear e3 x0 hm
  by_cases c1 : x < 1
  · go_wp2_with fail
    go_ret
    exact ⟨rfl, x3⟩
  by_cases c2 : (m : Int) < x
  · go_wp2_with fail
    go_ret
    exact ⟨rfl, x3⟩
  obtain ⟨X, rfl⟩ := Int.eq_ofNat_of_zero_le (show 0 ≤ x by omega)
  by_cases c3 : more.length = 0
  · have hb3 : ((more.length : Int) == 0) = true := by rw [beq_iff_eq]; omega
    clear c3
    go_wp2_with fail
    go_ret
    exact ⟨rfl, x3⟩
  have hb3 : ((more.length : Int) == 0) = false := by rw [beq_eq_false_iff_ne]; omega
  have hne : more ≠ [] := fun e => c3 (by rw [e]; rfl)
  have hd1 := fun W h => decode_no W (some ⟨g, 0, none⟩) (m - X) d ((encB t' l').take (m - X)) h (dec_cut Hf.out (by have := Hm.out; omega))
  have hd2 := fun W B m2 d2 h => decode_no W B m2 d2 (encB t' l' ++ more) h (dec_more Hf.out hne)
  have hmd := ho.rd.2.1
  have hmd2 := ho.rd.2.2.1
  unfold maxLen at hmd2 hmx
  unfold pAgg at hd1 hd2
  have Hd1 := Lib.hid hd1
  have Hd2 := Lib.hid hd2
  have hsub : ((m : Int) - (X : Int)).toNat = m - X := by omega
  have hsub2 : (m : Int) - (X : Int) = ((m - X : Nat) : Int) := by omega
  clear hd1 hd2 hne c3
  go_wp2_with fail
  refine (Hd1.out _ (Rb.take (l := encB t' l') ho.rd (by omega))).mono ?_
  rintro e w4 ⟨rfl, e4⟩
  have x4 := x3.trans e4
  have ho4 := ho.ext e4
  have hs4 : g < w4.heap.size := ho4.base_le _ rfl |>.2
  have hr4 := Rb.ext hr x4
  clear e4
  go_wp2_with (at_builtin; first
    | (refine wpList_append_nil _ rfl _ _ 36 rfl _ 5 i0 (.int .u8 0) 1 1 Try.underlying36 hi hz0 hz1 hz2 rfl (by decide) rfl _ m d _ rfl (ho4.ext (by first | exact Ext.alloc _ _ | exact ((Ext.alloc _ _).setCell (Nat.le_refl _) _) | exact (((Ext.alloc _ _).setCell (Nat.le_refl _) _).setCell (Nat.le_refl _) _))).rd (bcs_one _) (by unfold maxLen; omega) (by omega) (Nat.le_refl _) ?_; intro B d1 w5 ho5 e5; have y5 : Ext w4 w5 := Ext.trans (by first | exact Ext.alloc _ _ | exact ((Ext.alloc _ _).setCell (Nat.le_refl _) _) | exact (((Ext.alloc _ _).setCell (Nat.le_refl _) _).setCell (Nat.le_refl _) _)) e5; have q5 : PBox w5 w4.heap.size [] none 0 0 := (PBox.ext (w := _) (g := w4.heap.size) (t := []) (A := none) (n := 0) (c := 0) (by refine ⟨?_, ?_, ?_, ?_⟩ <;> go_simp) e5))
    | (refine wpList_append_to _ rfl _ _ 36 rfl _ 5 i0 (.int .u8 0) 1 1 Try.underlying36 hi hz0 hz1 hz2 rfl (by decide) B m d1 _ rfl ho5 A' more.length c' _ rfl (hr4.ext y5) (bcs_one _) (by unfold maxLen; omega) (by omega) e5.size ?_; intro B2 d2 w6 ho6 hg6 hw6))
  rw [← bcs_append] at ho6
  refine (Hd2.out _ _ _ _ ho6.rd).mono ?_
  rintro e w7 ⟨rfl, e7⟩
  have hbl : ∀ k, blk B = some k → w4.heap.size + 1 ≤ k := fun k hk => by have := ho5.blk_ge k hk; simpa using this
  have q7 := (q5.grown hg6 (fun e => by have := hbl _ e; omega)).ext e7
  have x7 := (x4.trans y5).own hg6 (fun k hk => by have := hbl k hk; have := x4.size; omega)
  have x8 := x7.trans e7
  obtain ⟨p0, p1, p2, p3⟩ := id q7
  have hlt7 := q7.lt
  go_wp2_with fail
  go_ret
  exact ⟨rfl, x8.trans (Ext.alloc _ _)⟩
end Go.Proofs.Ytehelhennbcboaa
