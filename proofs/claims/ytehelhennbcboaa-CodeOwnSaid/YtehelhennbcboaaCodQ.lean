/- The walks of slices.Equal at operations, of code.Eq, of the reference's EqProg, of bytes.Equal. -/
import Derived.Test.YtehelhennbcboaaCodF
import Derived.Test.YtehelhennbcboaaReg
import Derived.Laws.StructEq
namespace Go.Proofs.Ytehelhennbcboaa
open Go.RowKit

theorem op_eqIn (W : World) (d : Nat) (x a b c x' a' b' c' : Int) :
    (Op.equalIn (d + 2) 30 (.agg #[.int .i64 x, .int .i64 a, .int .i64 b, .int .i64 c]) (.agg #[.int .i64 x', .int .i64 a', .int .i64 b', .int .i64 c'])).run Try.prog W = .ok (x == x' && (a == a' && (b == b' && c == c'))) W := by
  have hu : Try.prog.underlying 30 = some (.struct (Try.prog.fieldsOf 30)) := by kernel_rfl
  have hp : Try.prog.stoodInHeld 30 = false := by kernel_rfl
  have hi : Try.prog.underlying 3 = some (.int .i64) := Try.underlying3
  have hc : Try.prog.cellsOf 3 = 1 := by kernel_rfl
  rw [run_equalIn_struct W (d + 1) _ _ _ hu hp]
  have hfs : Try.prog.fieldsOf 30 = (match Try.prog.underlying 30 with | some (.struct fs) => fs | _ => #[]) := rfl
  rw [hfs, Try.underlying30]
  clear hfs hu hp
  cases h1 : x == x' <;> cases h2 : a == a' <;> cases h3 : b == b' <;> cases h4 : c == c' <;> simp [Op.eqFields, part, run_equalIn_int (P := Try.prog) W d 3 .i64 .i64 _ _ hi, h1, h2, h3, h4, sizeOf, typeInfo]
theorem op_neq (W : World) (o o' : OpT) : (binOp .neq 30 (opAgg o) (opAgg o')).run Try.prog W = .ok (.bool (o != o')) W := by
  obtain ⟨x, a, b, c⟩ := o
  obtain ⟨x', a', b', c'⟩ := o'
  unfold opAgg
  rw [run_neq_struct, op_eqIn W 9998, Result.andThen_ok]
  congr 2

/-- Are two programs the same? -/
def eqP (t t' : List UInt8) (l l' : List OpT) : Bool := decide (t = t') && decide (l = l')
def eqRel (l l' : List OpT) (w : World) (i : Value) (w' : World) : Prop := ∃ k : Nat, i = .int .i64 (k : Nat) ∧ k ≤ l.length ∧ (l = l' ↔ l.drop k = l'.drop k) ∧ Dr w w'
theorem drop_eq {l l' : List OpT} {k : Nat} (h : k < l.length) (h' : k < l'.length) : l.drop k = l'.drop k ↔ l[k] = l'[k] ∧ l.drop (k + 1) = l'.drop (k + 1) := by
  rw [List.drop_eq_getElem_cons h, List.drop_eq_getElem_cons h', List.cons.injEq]

set_option maxRecDepth 100000 in
set_option maxHeartbeats 2000000 in
theorem seq_is (w : World) (A : Option Addr) (n c : Nat) (l : List OpT) (A' : Option Addr) (n' c' : Nat) (l' : List OpT) (hl : Ro w A n c l) (hl' : Ro w A' n' c' l') {r : Bool} (hr : decide (l = l') = r) :
    Calls Try.prog 39 #[.slice A n c, .slice A' n' c'] w fun e w' => e = .returned (.bool r) ∧ Dr w w' := by
  subst hr
  have hn := hl.len
  have hn' := hl'.len
  have hmx := hl.max
  have hmx' := hl'.max
  unfold maxLen at hmx hmx'
  subst hn hn'
  by_cases hne : l.length = l'.length
  · have Hne := Lib.hid hne
    have hb : ((l.length : Int) != (l'.length : Int)) = false := by simp [hne]
    clear hne
    go_enter Try.func39, Try.ntmps39
    go_wp2_with fail
    go_loopw [13] (fun i w' => eqRel l l' w i w') (fun i _ => l.length - (intOf i).toNat)
    case atStart => exact ⟨0, rfl, Nat.zero_le _, Iff.rfl, Dr.refl _⟩
    case round =>
      obtain ⟨k, rfl, hk, he, hdr⟩ := hrel
      have He := Lib.hid he
      clear he
      by_cases hlt : k < l.length
      · have hlt' : k < l'.length := by have := Hne.out; omega
        obtain ⟨b, o, rfl, g0, g1, g2, g3⟩ := (hl.ext hdr.ext).at_ hlt
        obtain ⟨b', o', rfl, q0, q1, q2, q3⟩ := (hl'.ext hdr.ext).at_ hlt'
        have Hd := Lib.hid (drop_eq hlt hlt')
        generalize l[k] = op at *
        generalize l'[k] = op' at *
        by_cases hop : op = op'
        · have hneq : ∀ W, (binOp .neq 30 (.agg #[.int .i64 op.1, .int .i64 op.2.1, .int .i64 op.2.2.1, .int .i64 op.2.2.2]) (.agg #[.int .i64 op'.1, .int .i64 op'.2.1, .int .i64 op'.2.2.1, .int .i64 op'.2.2.2])).run Try.prog W = .ok (.bool false) W := fun W => by
            have := op_neq W op op'
            rw [show (op != op') = false by simp [hop]] at this
            exact this
          have Hop := Lib.hid hop
          clear hop
          go_wp2_with fail
          apply wp_region_lex (R := Dr) (by kernel_rfl) (by kernel_rfl) Dr.refl (fun _ _ _ => Dr.trans) (Dr.drew _)
          repeat
            apply lex_ex Dr.refl
            · rfl
            · intro W hR hΦ
              obtain ⟨nq, rfl⟩ := hR
              go_simp
              first | done | with_reducible rfl
            simp only [Act.put, List.setIfInBounds_toArray, List.set_cons_zero, List.set_cons_succ]
          refine lex_nil ?_
          intro W hR _
          go_wp2_with fail
          go_roundw
          case rel => exact ⟨k + 1, by go_num, hlt, by rw [He.out, Hd.out]; exact ⟨fun h => h.2, fun h => ⟨Hop.out, h⟩⟩, hdr.trans hR⟩
          case measure => simp [intOf]; omega
        · have hneq : ∀ W, (binOp .neq 30 (.agg #[.int .i64 op.1, .int .i64 op.2.1, .int .i64 op.2.2.1, .int .i64 op.2.2.2]) (.agg #[.int .i64 op'.1, .int .i64 op'.2.1, .int .i64 op'.2.2.1, .int .i64 op'.2.2.2])).run Try.prog W = .ok (.bool true) W := fun W => by
            have := op_neq W op op'
            rw [show (op != op') = true by simp [hop]] at this
            exact this
          have Hop := Lib.hid hop
          clear hop
          go_wp2_with fail
          apply wp_region_lex (R := Dr) (by kernel_rfl) (by kernel_rfl) Dr.refl (fun _ _ _ => Dr.trans) (Dr.drew _)
          repeat
            apply lex_ex Dr.refl
            · rfl
            · intro W hR hΦ
              obtain ⟨nq, rfl⟩ := hR
              go_simp
              first | done | with_reducible rfl
            simp only [Act.put, List.setIfInBounds_toArray, List.set_cons_zero, List.set_cons_succ]
          refine lex_nil ?_
          intro W hR _
          go_wp2_with fail
          go_ret
          exact ⟨by rw [decide_eq_false (fun h => Hop.out (Hd.out.mp (He.out.mp h)).1)]; rfl, hdr.trans hR⟩
      · obtain rfl : k = l.length := by omega
        go_wp2_with fail
        go_ret
        have he : l = l' := He.out.mpr (by rw [List.drop_length, Hne.out, List.drop_length])
        exact ⟨by rw [decide_eq_true he]; rfl, hdr⟩
  · have hb : ((l.length : Int) != (l'.length : Int)) = true := by rw [bne_iff_ne]; omega
    have Hne : RowKit.Hid (decide (l = l') = false) := Lib.hid (decide_eq_false fun h => hne (by rw [h]))
    clear hne
    go_enter Try.func39, Try.ntmps39
    go_wp2_with fail
    go_ret
    exact ⟨by rw [Hne.out]; rfl, Dr.refl _⟩

set_option maxRecDepth 100000 in
set_option maxHeartbeats 2000000 in
theorem eq_is (w : World) (t : List UInt8) (A : Option Addr) (n c : Nat) (l : List OpT) (t' : List UInt8) (A' : Option Addr) (n' c' : Nat) (l' : List OpT) (hl : Ro w A n c l) (hl' : Ro w A' n' c' l') {r : Bool} (hr : eqP t t' l l' = r) :
    Calls Try.prog 24 #[pAgg t A n c, pAgg t' A' n' c'] w fun e w' => e = .returned (.bool r) ∧ Ext w w' := by
  subst hr
  unfold pAgg eqP
  have hl1 := (hl.ext (Ext.alloc w (.cells #[.string (bs t), .slice A n c] 24))).ext (Ext.alloc _ (.cells #[.string (bs t'), .slice A' n' c'] 24))
  have hl2 := (hl'.ext (Ext.alloc w (.cells #[.string (bs t), .slice A n c] 24))).ext (Ext.alloc _ (.cells #[.string (bs t'), .slice A' n' c'] 24))
  have Hs := Lib.hid (seq_is _ A n c l A' n' c' l' hl1 hl2 rfl)
  clear hl1 hl2
  by_cases ht : t = t'
  · subst ht
    go_enter Try.func24, Try.ntmps24
    go_wp2_with fail
    refine Calls.mono Hs.out ?_
    rintro e w1 ⟨rfl, e1⟩
    go_wp2_with fail
    go_ret
    exact ⟨by simp, ((Ext.alloc w _).trans (Ext.alloc _ _)).trans e1.ext⟩
  · have hb : (t == t') = false := by rw [beq_eq_false_iff_ne]; exact ht
    have Ht := Lib.hid ht
    clear ht
    go_enter Try.func24, Try.ntmps24
    go_wp2_with fail
    go_ret
    exact ⟨by rw [decide_eq_false Ht.out]; rfl, (Ext.alloc w _).trans (Ext.alloc _ _)⟩
end Go.Proofs.Ytehelhennbcboaa
