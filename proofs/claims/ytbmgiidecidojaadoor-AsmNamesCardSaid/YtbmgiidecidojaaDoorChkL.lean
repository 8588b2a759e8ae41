/- Law 5's Cut of a program (cut for the seat of asm). -/
import Derived.Test.YtbmgiidecidojaaDoorCodE
import Derived.Test.YtbmgiidecidojaaDoorNumC
namespace Go.Proofs.YtbmgiidecidojaaDoor
open Go.RowKit

theorem ro_new {w : World} {l : List OpT} {B n c : Nat} {t : TypeId} (hB : B = w.heap.size) (hn : n = l.length) (hc : c = l.length) (hm : l.length ≤ 1000) : Ro (w.alloc (.cells (opcs l).toArray t)) (some ⟨B, 0, none⟩) n c l := by
  subst hB hn hc
  exact Rd.made w t 4 (opcs l) l.length (opcs_length l) (by have : maxLen = 9223372036854775807 := rfl; omega)
theorem Ro.min_ {w : World} {A : Option Addr} {n c : Nat} {l : List OpT} (h : Ro w A n c l) (k : Nat) : Ro w A (min n k) c (l.take k) := by
  have h1 := h.take (Nat.min_le_left n k)
  have : l.take (min n k) = l.take k := by
    rw [h.len, List.take_eq_take_iff]; omega
  rw [this] at h1
  exact h1
theorem Ext.frozen {w w' : World} (h : Ext w w') {p : Addr} (hp : p.block < w.heap.size) : w'.frozen? p = w.frozen? p := Below.frozen h hp
theorem Ext.setCell {w w' : World} (h : Ext w w') {p : Addr} (hp : w.heap.size ≤ p.block) (u : Value) : Ext w (w'.setCell p u) := Below.setCell h hp u

set_option maxHeartbeats 1000000 in
theorem pcut_any (w : World) (t : List UInt8) (A : Option Addr) (n c k : Nat) (ht : t.length ≤ maxLen) (hn : n ≤ c ∧ c ≤ maxLen) :
    Calls Tryd.prog 14 #[pAgg t A n c, .int .i64 (k : Nat)] w fun e w' => e = .returned (pAgg (t.take 40) A (min n k) c) ∧ Ext w w' := by
  unfold pAgg
  unfold maxLen at hn
  have hcut := fun W => cut_any t 40 W ht
  have Hcut := Lib.hid hcut
  clear hcut
  by_cases h : k < n
  · have hm : min n k = k := by omega
    rw [hm]
    clear hm
    go_enter Tryd.func14, Tryd.ntmps14
    go_wp2_with fail
    refine (Hcut.out _).mono ?_
    rintro e w1 ⟨rfl, rfl⟩
    go_wp2_with fail
    exact bodyPost_ret (v := .agg #[.string (bs (t.take 40)), .slice A k c]) (by simp [results, Tryd.results14, go_sem]) rfl ⟨rfl, by repeat (first | exact (Below.refl _ _).alloc (Nat.le_refl _) _ | refine Below.alloc ?_ (by simp) _ | refine Below.setCell ?_ (by simp) _)⟩
  · have hm : min n k = n := by omega
    rw [hm]
    clear hm
    go_enter Tryd.func14, Tryd.ntmps14
    go_wp2_with fail
    refine (Hcut.out _).mono ?_
    rintro e w1 ⟨rfl, rfl⟩
    go_wp2_with fail
    exact bodyPost_ret (v := .agg #[.string (bs (t.take 40)), .slice A n c]) (by simp [results, Tryd.results14, go_sem]) rfl ⟨rfl, by repeat (first | exact (Below.refl _ _).alloc (Nat.le_refl _) _ | refine Below.alloc ?_ (by simp) _ | refine Below.setCell ?_ (by simp) _)⟩
end Go.Proofs.YtbmgiidecidojaaDoor
