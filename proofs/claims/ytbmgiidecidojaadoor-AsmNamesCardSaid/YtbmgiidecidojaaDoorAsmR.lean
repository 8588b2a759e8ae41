/- The walks of the reference's blank, trim. -/
import Derived.Test.YtbmgiidecidojaaDoorAsmW
namespace Go.Proofs.YtbmgiidecidojaaDoor
open Go.RowKit

theorem rblank_is (w : World) (x : Nat) {b : Bool} (h : decide (x = 32 ∨ x = 9) = b) :
    Calls Tryd.prog 23 #[.int .u8 (x : Nat)] w fun e w' => e = .returned (.bool b) ∧ w = w' := by
  subst h
  by_cases h1 : x = 32
  · subst h1
    go_enter Tryd.func23, Tryd.ntmps23
    go_wp2_with fail
    go_ret
    exact ⟨rfl, rfl⟩
  · have b1 : (((x : Nat) : Int) == 32) = false := by rw [beq_eq_false_iff_ne]; omega
    by_cases h2 : x = 9
    · subst h2
      go_enter Tryd.func23, Tryd.ntmps23
      go_wp2_with fail
      go_ret
      exact ⟨rfl, rfl⟩
    · have b2 : (((x : Nat) : Int) == 9) = false := by rw [beq_eq_false_iff_ne]; omega
      have e : decide (x = 32 ∨ x = 9) = false := by rw [decide_eq_false_iff_not]; omega
      go_enter Tryd.func23, Tryd.ntmps23
      go_wp2_with fail
      go_ret
      exact ⟨by rw [e]; rfl, rfl⟩

def rtRel (w : World) (l : List UInt8) (s i : Value) (w' : World) : Prop := ∃ (t : List UInt8) (k : Nat), s = .string (bs t) ∧ i = .int .i64 (k : Nat) ∧ k ≤ l.length ∧ t.length ≤ l.length ∧ (k ≤ t.length ∧ t = l ∧ cutH l = l.take k ++ cutH (l.drop k) ∨ t.length < k ∧ t = cutH l) ∧ w = w'
set_option maxRecDepth 100000 in
set_option maxHeartbeats 4000000 in
theorem rtrim_any (w : World) (l : List UInt8) (hl : l.length ≤ 1099511627776) :
    Calls Tryd.prog 22 #[.string (bs l)] w fun e w' => e = .returned (.string (bs (bareL l))) ∧ Ext w w' := by
  go_enter Tryd.func22, Tryd.ntmps22
  go_wp2_with fail
  go_loopw [0, 3] (fun s i w' => rtRel w l s i w') (fun _ i _ => l.length - (intOf i).toNat)
  case atStart => exact ⟨l, 0, rfl, rfl, Nat.zero_le _, Nat.le_refl _, .inl ⟨Nat.zero_le _, rfl, by simp⟩, rfl⟩
  case round =>
    obtain ⟨t, k, rfl, rfl, hk, htl, hc, rfl⟩ := hrel
    have Hc := Lib.hid hc
    clear hc
    by_cases hlt : k < t.length
    · have ht : t = l := by rcases Hc.out with h | h; exact h.2.1; omega
      subst ht
      have hix := fun W => str_at (P := Tryd.prog) W _ Tryd.underlying9 t k hlt
      have h256 := bt_lt t k
      have Hc1 := Lib.hid (show cutH t = t.take k ++ cutH (t.drop k) by rcases Hc.out with h | h; exact h.2.2; omega)
      clear Hc
      by_cases h35 : bt t k = 35
      · have Hi := Lib.hid h35
        rw [h35] at hix
        clear h35
        go_wp2_with fail
        go_roundw
        case rel => exact ⟨t.take k, k + 1, by simp, by go_num, hlt, by simp; omega, .inr ⟨by simp; omega, by rw [Hc1.out, cutH_stop hlt Hi.out]; simp⟩, rfl⟩
        case measure => simp [intOf]; omega
      · have b1 : (((bt t k : Nat) : Int) == 35) = false := by rw [beq_eq_false_iff_ne]; omega
        have Hi := Lib.hid h35
        clear h35
        go_wp2_with fail
        go_roundw
        case rel => exact ⟨t, k + 1, rfl, by go_num, hlt, htl, .inl ⟨hlt, rfl, by
          rw [Hc1.out, cutH_go 1 hlt (fun j hj => by rw [bt_drop, show k + j = k by omega]; exact Hi.out), ← List.append_assoc, ← List.take_add]⟩, rfl⟩
        case measure => simp [intOf]; omega
    · have Ht : RowKit.Hid (t = cutH l) := by
        rcases Hc.out with ⟨h1, h2, h3⟩ | ⟨_, h⟩
        · subst h2
          have : k = t.length := by omega
          subst this
          refine Lib.hid ?_
          rw [h3]; simp [cutH]
        · exact Lib.hid h
      clear Hc
      go_upto_block 2 with fail
      go_cut [0] (fun s wx => enRel2 w l s wx)
      case first =>
        go_wp2_with fail
        go_loopw [0] (fun s w' => skRel w l s w') (fun s _ => lenOf s)
        case atStart => exact ⟨t, rfl, by rw [Ht.out], htl, Ext.refl _⟩
        case round =>
          obtain ⟨t, rfl, ht, hlt, he⟩ := hrel
          have Ht := Lib.hid ht
          clear ht
          by_cases hn : t = []
          · subst hn
            go_wp2_with fail
            go_meet
            exact ⟨[], rfl, by unfold bareL; rw [← Ht.out]; rfl, hlt, he⟩
          · have hce : t.isEmpty = false := by cases t <;> simp at hn ⊢
            have hix := fun W => str_first (P := Tryd.prog) W _ Tryd.underlying9 t hn
            have h256 := bt_lt t 0
            have h0 := List.length_pos_iff.mpr hn
            have Hs := Lib.hid (skipB_cons hn)
            by_cases hb : bt t 0 = 32 ∨ bt t 0 = 9
            · have Hb := Lib.hid hb
              clear hb hn
              go_wp2_with fail
              refine (rblank_is _ _ (b := true) (by simpa using Hb.out)).mono ?_
              rintro e w1 ⟨rfl, rfl⟩
              go_wp2_with fail
              go_roundw
              case rel => exact ⟨t.drop 1, by simp, by rw [← Ht.out, Hs.out, if_pos Hb.out], by simp; omega, he⟩
              case measure => simp [lenOf, bs_size]; omega
            · have Hb := Lib.hid hb
              clear hb hn
              go_wp2_with fail
              refine (rblank_is _ _ (b := false) (by simpa using Hb.out)).mono ?_
              rintro e w1 ⟨rfl, rfl⟩
              go_wp2_with fail
              go_meet
              refine ⟨t, rfl, ?_, hlt, he⟩
              have := Hs.out
              rw [if_neg Hb.out] at this
              unfold bareL; rw [← Ht.out, this]
      case rest =>
        obtain ⟨t1, rfl, ht1, hl1, e1⟩ := hcut
        have Ht1 := Lib.hid ht1
        clear ht1
        go_wp2_with fail
        go_loopw [0] (fun s w' => enRel2 w l s w') (fun s _ => lenOf s)
        case atStart => exact ⟨t1, rfl, Ht1.out, hl1, e1⟩
        case round =>
          obtain ⟨t, rfl, ht, hlt, he⟩ := hrel
          have Ht := Lib.hid ht
          clear ht
          by_cases hn : t = []
          · subst hn
            go_wp2_with fail
            go_ret
            exact ⟨by rw [← Ht.out]; rfl, he⟩
          · have hce : t.isEmpty = false := by cases t <;> simp at hn ⊢
            have hix := fun W => str_last (P := Tryd.prog) W _ Tryd.underlying9 t hn
            have h256 := bt_lt t (t.length - 1)
            have h0 := List.length_pos_iff.mpr hn
            have Hs := Lib.hid (endB_snoc hn)
            by_cases hb : bt t (t.length - 1) = 32 ∨ bt t (t.length - 1) = 9
            · have Hb := Lib.hid hb
              clear hb hn
              go_wp2_with fail
              refine (rblank_is _ _ (b := true) (by simpa using Hb.out)).mono ?_
              rintro e w1 ⟨rfl, rfl⟩
              go_wp2_with fail
              go_roundw
              case rel => exact ⟨t.take (t.length - 1), by simp, by rw [← Ht.out, Hs.out, if_pos Hb.out], by simp; omega, he⟩
              case measure => simp [lenOf, bs_size]; omega
            · have Hb := Lib.hid hb
              clear hb hn
              go_wp2_with fail
              refine (rblank_is _ _ (b := false) (by simpa using Hb.out)).mono ?_
              rintro e w1 ⟨rfl, rfl⟩
              go_wp2_with fail
              go_ret
              refine ⟨?_, he⟩
              have := Hs.out
              rw [if_neg Hb.out] at this
              rw [← Ht.out, this]; rfl

end Go.Proofs.YtbmgiidecidojaaDoor
