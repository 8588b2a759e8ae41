/- The walks of asm.Takes, the reference's takes; asm.title, asm.apart. -/
import Derived.Test.YtbmgiidecidojaaDoorAsmW
import Derived.Test.YtbmgiidecidojaaDoorShelf
import Derived.Lib.IndexAny
namespace Go.Proofs.YtbmgiidecidojaaDoor
open Go.RowKit

set_option maxHeartbeats 1000000 in
theorem takes_any (w : World) (c : Int) (h0 : -9223372036854775808 ≤ c) (h1 : c ≤ 9223372036854775807) :
    Calls Tryd.prog 29 #[.int .i64 c] w fun e w' => e = .returned (.int .i64 (takesL c)) ∧ w = w' := by
  have hc : c = 0 ∨ c = 1 ∨ c = 2 ∨ c = 3 ∨ c = 4 ∨ c = 5 ∨ c = 6 ∨ c = 7 ∨ c = 8 ∨ c = 9 ∨ c = 10 ∨ c = 11 ∨ c = 12 ∨ c = 13 ∨ c = 14 ∨ c = 15 ∨ (c < 0 ∨ 15 < c) := by omega
  rcases hc with rfl | rfl | rfl | rfl | rfl | rfl | rfl | rfl | rfl | rfl | rfl | rfl | rfl | rfl | rfl | rfl | hc
  iterate 16
    · go_enter Tryd.func29, Tryd.ntmps29
      go_wp2_with fail
      go_ret
      exact ⟨rfl, rfl⟩
  have ht : takesL c = -1 := by
    unfold takesL
    rw [if_neg (by omega), if_neg (by omega), if_neg (by omega), if_neg (by omega)]
  have b : ∀ k : Int, 0 ≤ k → k ≤ 15 → (c == k) = false := fun k h h' => by rw [beq_eq_false_iff_ne]; omega
  have b0 := b 0 (by decide) (by decide)
  have b1 := b 1 (by decide) (by decide)
  have b2 := b 2 (by decide) (by decide)
  have b3 := b 3 (by decide) (by decide)
  have b4 := b 4 (by decide) (by decide)
  have b5 := b 5 (by decide) (by decide)
  have b6 := b 6 (by decide) (by decide)
  have b7 := b 7 (by decide) (by decide)
  have b8 := b 8 (by decide) (by decide)
  have b9 := b 9 (by decide) (by decide)
  have b10 := b 10 (by decide) (by decide)
  have b11 := b 11 (by decide) (by decide)
  have b12 := b 12 (by decide) (by decide)
  have b13 := b 13 (by decide) (by decide)
  have b14 := b 14 (by decide) (by decide)
  have b15 := b 15 (by decide) (by decide)
  have Ht := Lib.hid ht
  clear ht b hc
  go_enter Tryd.func29, Tryd.ntmps29
  go_wp2_with fail
  go_ret
  exact ⟨by rw [Ht.out]; rfl, rfl⟩

set_option maxHeartbeats 1000000 in
theorem rtakes_is (w : World) (c : Int) (h0 : 0 ≤ c) (h1 : c ≤ 15) {t : Int} (ht : takesL c = t) :
    Calls Tryd.prog 33 #[.int .i64 c] w fun e w' => e = .returned (.int .i64 t) ∧ Ext w w' := by
  subst ht
  have hc : c = 0 ∨ c = 1 ∨ c = 2 ∨ c = 3 ∨ c = 4 ∨ c = 5 ∨ c = 6 ∨ c = 7 ∨ c = 8 ∨ c = 9 ∨ c = 10 ∨ c = 11 ∨ c = 12 ∨ c = 13 ∨ c = 14 ∨ c = 15 := by omega
  rcases hc with rfl | rfl | rfl | rfl | rfl | rfl | rfl | rfl | rfl | rfl | rfl | rfl | rfl | rfl | rfl | rfl
  all_goals
    go_enter Tryd.func33, Tryd.ntmps33
    go_wp2_with fail
    go_ret
    exact ⟨rfl, Ext.alloc _ _⟩


theorem cutp_any (w : World) (l : List UInt8) :
    Calls Tryd.prog 35 #[.string (bs l), .string { data := #[116, 105, 116, 108, 101] }] w fun e w' => e = .returned (.tuple #[.string (bs (if l.take 5 = ttlW then l.drop 5 else l)), .bool (decide (l.take 5 = ttlW))]) ∧ w = w' := by
  refine (Tryd.strings_CutPrefix (bs l) _ w).mono ?_
  rintro e w1 ⟨rfl, rfl⟩
  have e1 : Lib.hasPrefix (bs l).data.toList [116, 105, 116, 108, 101] = decide (l.take 5 = ttlW) := by
    rw [← Lib.hasPrefix_of_take, bs_data, Bool.eq_iff_iff]
    simp only [Bool.and_eq_true, decide_eq_true_eq, beq_iff_eq]
    constructor
    · exact fun h => h.2
    · intro h
      refine ⟨?_, h⟩
      have := congrArg List.length h
      have : min 5 l.length = 5 := by simpa [ttlW] using this
      show 5 ≤ l.length
      omega
  refine ⟨?_, rfl⟩
  show Ending.returned (.tuple #[.string ⟨(Lib.trimPrefix (bs l).data.toList [116, 105, 116, 108, 101]).toArray⟩, .bool (Lib.hasPrefix (bs l).data.toList [116, 105, 116, 108, 101])]) = _
  unfold Lib.trimPrefix
  rw [e1, bs_data]
  by_cases h : l.take 5 = ttlW
  · rw [decide_eq_true h, if_pos rfl, if_pos h]; rfl
  · rw [decide_eq_false h, if_neg (by simp), if_neg h]; rfl

theorem ttl_no {l : List UInt8} (h : ¬ (l.take 5 = ttlW ∧ 5 < l.length ∧ blank (l.getD 5 0) = true)) : ttlL l = none := by
  unfold ttlL
  rw [if_neg fun h' => h ⟨h'.1, h'.2.1, h'.2.2.1⟩]
theorem ttl_yes {l : List UInt8} (h : l.take 5 = ttlW ∧ 5 < l.length ∧ blank (l.getD 5 0) = true) : ttlL l = if titleL (bareL (l.drop 5)) = true then some (bareL (l.drop 5)) else none := by
  unfold ttlL
  by_cases ht : titleL (bareL (l.drop 5)) = true
  · rw [if_pos ⟨h.1, h.2.1, h.2.2, ht⟩, if_pos ht]
  · rw [if_neg fun h' => ht h'.2.2.2, if_neg ht]
theorem blank_bt (l : List UInt8) (k : Nat) : blank (l.getD k 0) = decide (bt l k = 32 ∨ bt l k = 9) := by
  unfold blank bt
  rw [Bool.eq_iff_iff]; simp

/-- What reading a title's line leaves. -/
def TtlOf (w : World) (l : List UInt8) (r : Ending) (w' : World) : Prop := ∃ t, r = .returned (.tuple #[.string (bs t), .bool (ttlL l).isSome]) ∧ (∀ x, ttlL l = some x → t = x) ∧ Ext w w'

set_option maxHeartbeats 1000000 in
theorem atitle_any (w : World) (l : List UInt8) (hl : l.length ≤ 1099511627776) :
    Calls Tryd.prog 20 #[.string (bs l)] w (TtlOf w l) := by
  go_enter Tryd.func20, Tryd.ntmps20
  go_wp2_with fail
  refine (cutp_any _ l).mono ?_
  rintro e w1 ⟨rfl, rfl⟩
  by_cases h : l.take 5 = ttlW
  · have Hh := Lib.hid h
    rw [decide_eq_true h, if_pos h]
    clear h
    by_cases hn : l.drop 5 = []
    · have ht : ttlL l = none := ttl_no fun h => by
        have := congrArg List.length hn
        simp at this; omega
      have Ht := Lib.hid ht
      rw [hn]
      clear hn ht
      go_wp2_with fail
      go_ret2
      exact ⟨[], by rw [Ht.out]; rfl, by rw [Ht.out]; simp, Ext.refl _⟩
    · have h0 := List.length_pos_iff.mpr hn
      have hce : (l.drop 5).isEmpty = false := by cases h : l.drop 5 <;> simp [h] at hn ⊢
      have hix := fun W => str_first (P := Tryd.prog) W _ Tryd.underlying9 (l.drop 5) hn
      have h256 := bt_lt (l.drop 5) 0
      have e5 : bt (l.drop 5) 0 = bt l 5 := by rw [bt_drop]
      have hl5 : (l.drop 5).length ≤ 1099511627776 := by rw [List.length_drop]; omega
      have h5 : 5 < l.length := by rw [List.length_drop] at h0; omega
      by_cases hb : bt l 5 = 32 ∨ bt l 5 = 9
      · have Hy := Lib.hid (ttl_yes ⟨Hh.out, h5, by rw [blank_bt]; exact decide_eq_true hb⟩)
        have Hb := Lib.hid (show decide (bt (l.drop 5) 0 = 32 ∨ bt (l.drop 5) 0 = 9) = true by rw [e5]; exact decide_eq_true hb)
        clear hb hn e5
        generalize l.drop 5 = m at *
        go_wp2_with fail
        refine (blank_is _ _ Hb.out).mono ?_
        rintro e w1 ⟨rfl, rfl⟩
        go_wp2_with fail
        refine (bare_any _ m hl5).mono ?_
        rintro e w1 ⟨rfl, e1⟩
        go_wp2_with fail
        refine (title_any _ (bareL m) (Nat.le_trans (bareL_le m) hl5)).mono ?_
        rintro e w2 ⟨rfl, e2⟩
        go_wp2_with fail
        go_ret2
        refine ⟨bareL m, ?_, ?_, e1.trans e2⟩
        · rw [Hy.out]; cases titleL (bareL m) <;> rfl
        · rw [Hy.out]; intro x; cases titleL (bareL m) <;> simp
      · have Hy := Lib.hid (ttl_no (l := l) fun h => hb (by have := h.2.2; rw [blank_bt] at this; exact of_decide_eq_true this))
        have Hb := Lib.hid (show decide (bt (l.drop 5) 0 = 32 ∨ bt (l.drop 5) 0 = 9) = false by rw [e5]; exact decide_eq_false hb)
        clear hb hn e5
        generalize l.drop 5 = m at *
        go_wp2_with fail
        refine (blank_is _ _ Hb.out).mono ?_
        rintro e w1 ⟨rfl, rfl⟩
        go_wp2_with fail
        go_ret2
        exact ⟨[], by rw [Hy.out]; rfl, by rw [Hy.out]; simp, Ext.refl _⟩
  · have ht : ttlL l = none := ttl_no fun h' => h h'.1
    have Ht := Lib.hid ht
    rw [decide_eq_false h, if_neg h]
    clear ht h
    go_wp2_with fail
    go_ret2
    exact ⟨[], by rw [Ht.out]; rfl, by rw [Ht.out]; simp, Ext.refl _⟩

theorem apart_has (t : List UInt8) : decide (0 ≤ Lib.indexByte t 35) = t.any fun b => b.toNat == 35 := by
  rw [← Lib.contains_iff_indexByte, Bool.eq_iff_iff, List.any_eq_true, List.contains_iff_mem]
  constructor
  · exact fun h => ⟨35, h, rfl⟩
  · rintro ⟨b, hb, e⟩
    have : b = 35 := UInt8.toNat_inj.mp (by simpa using e)
    rw [← this]; exact hb
theorem apart_pre (t : List UInt8) : Lib.hasPrefix t [32] = (t.head? == some 32) := by
  unfold Lib.hasPrefix
  cases t with
  | nil => rfl
  | cons b r => simp [List.isPrefixOf]; rw [Bool.eq_iff_iff]; simp; exact eq_comm
theorem apart_suf (t : List UInt8) : Lib.hasSuffix t [32] = (t.getLast? == some 32) := by
  unfold Lib.hasSuffix List.isSuffixOf
  have := apart_pre t.reverse
  unfold Lib.hasPrefix at this
  simpa using this
theorem apart_is (w : World) (t : List UInt8) (ht : t.length ≤ 1099511627776) {b : Bool} (hb : apartL t = b) :
    Calls Tryd.prog 28 #[.string (bs t)] w fun e w' => e = .returned (.bool b) ∧ w = w' := by
  subst hb
  have c1 : ∀ W, Calls Tryd.prog 45 #[.string (bs t), .string { data := #[35] }] W fun e w' => e = .returned (.bool (t.any fun b => b.toNat == 35)) ∧ W = w' := fun W => by
    refine (Tryd.strings_Contains_one (bs t) 35 W).mono ?_
    rintro e w1 ⟨rfl, rfl⟩
    exact ⟨by rw [bs_data, apart_has], rfl⟩
  have c2 : ∀ W, Calls Tryd.prog 46 #[.string (bs t), .string { data := #[32] }] W fun e w' => e = .returned (.bool (t.head? == some 32)) ∧ W = w' := fun W => by
    refine (Tryd.strings_HasPrefix (bs t) { data := #[32] } W).mono ?_
    rintro e w1 ⟨rfl, rfl⟩
    exact ⟨by rw [bs_data, ← apart_pre], rfl⟩
  have c3 : ∀ W, Calls Tryd.prog 47 #[.string (bs t), .string { data := #[32] }] W fun e w' => e = .returned (.bool (t.getLast? == some 32)) ∧ W = w' := fun W => by
    refine (Tryd.strings_HasSuffix (bs t) { data := #[32] } W (by rw [bs_size]; omega)).mono ?_
    rintro e w1 ⟨rfl, rfl⟩
    exact ⟨by rw [bs_data, ← apart_suf], rfl⟩
  unfold apartL
  generalize (t.any fun b => b.toNat == 35) = x at *
  generalize (t.head? == some 32) = y at *
  generalize (t.getLast? == some 32) = z at *
  cases x
  · cases y
    · go_enter Tryd.func28, Tryd.ntmps28
      go_wp2_with fail
      refine (c1 _).mono ?_
      rintro e w1 ⟨rfl, rfl⟩
      go_wp2_with fail
      refine (c2 _).mono ?_
      rintro e w1 ⟨rfl, rfl⟩
      go_wp2_with fail
      refine (c3 _).mono ?_
      rintro e w1 ⟨rfl, rfl⟩
      go_wp2_with fail
      go_ret
      exact ⟨by simp, rfl⟩
    · go_enter Tryd.func28, Tryd.ntmps28
      go_wp2_with fail
      refine (c1 _).mono ?_
      rintro e w1 ⟨rfl, rfl⟩
      go_wp2_with fail
      refine (c2 _).mono ?_
      rintro e w1 ⟨rfl, rfl⟩
      go_wp2_with fail
      go_ret
      exact ⟨by simp, rfl⟩
  · go_enter Tryd.func28, Tryd.ntmps28
    go_wp2_with fail
    refine (c1 _).mono ?_
    rintro e w1 ⟨rfl, rfl⟩
    go_wp2_with fail
    go_ret
    exact ⟨by simp, rfl⟩
end Go.Proofs.YtbmgiidecidojaaDoor
